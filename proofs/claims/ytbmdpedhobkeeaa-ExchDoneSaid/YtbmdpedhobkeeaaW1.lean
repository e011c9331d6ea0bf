/- The functions walked: each computes its Lean function (printed by this work's own program gen.py). -/
import Derived.Test.YtbmdpedhobkeeaaSq
set_option linter.unusedVariables false
set_option linter.unusedSimpArgs false
set_option maxRecDepth 10000
set_option maxHeartbeats 4000000
namespace Go.Proofs.Ytbmdpedhobkeeaa.Abs
open Go

theorem f9_ok (own0 : Int) (peer1 : Int) (seq2 : Int) (heads3 : List THeader) (R : TSession × TDesc) (hR : F9_exch_Open own0 peer1 seq2 heads3 = some R) : FnOk Try.prog 9 [.int .u32 own0, .int .u32 peer1, .int .u32 seq2, .ro 8 (heads3.map THeader.c)] [] 0 (.tup [.agg (TSession.c R.1), .agg (TDesc.c R.2)]) [] 0 := by
 refine FnOk.wk i9 rfl rfl ?_
 unfold F9_exch_Open at hR
 try dsimp only at hR
 change WK _ _ _ [ac9] _ ⟨[(0, .int .u32 own0), (1, .int .u32 peer1), (2, .int .u32 seq2), (3, .ro 8 (heads3.map THeader.c))], [], 0⟩
 unfold ac9
 refine WK.sr mixed ?_
 refine GX.step (v' := .ptr 0 0) (heap' := [(0, .box [.int .u32 0, .int .u32 0, .int .i64 0, .bool false, .int .u32 0, .nils, .nils, .int .i64 0, .int .i64 0, .bool false, .bool false, .bool false, .int .u32 0, .nils])]) (next' := 1) rfl rfl rfl rfl rfl rfl rfl ?_
 refine GX.step (v' := .ptr 1 0) (heap' := [(0, .box [.int .u32 0, .int .u32 0, .int .i64 0, .bool false, .int .u32 0, .nils, .nils, .int .i64 0, .int .i64 0, .bool false, .bool false, .bool false, .int .u32 0, .nils]), (1, .box [.int .i64 0, .int .i64 0, .bool false, .bool false, .bool false, .int .u32 0, .nils])]) (next' := 2) rfl rfl rfl rfl rfl rfl rfl ?_
 refine GX.done ?_
 refine WK.sr mixed ?_
 refine GX.m rfl ?_
 refine GX.q (.agg [.int .i64 1500, .int .i64 2, .bool true, .bool true, .bool true, .int .u32 seq2, .nils]) ?_
 refine GX.step (v' := .ptr 2 0) (heap' := [(0, .box [.int .u32 0, .int .u32 0, .int .i64 0, .bool false, .int .u32 0, .nils, .nils, .int .i64 0, .int .i64 0, .bool false, .bool false, .bool false, .int .u32 0, .nils]), (1, .box [.int .i64 0, .int .i64 0, .bool false, .bool false, .bool false, .int .u32 0, .nils]), (2, .box [.int .i64 0, .int .i64 0, .bool false, .bool false, .bool false, .int .u32 0, .nils])]) (next' := 3) rfl rfl rfl rfl rfl rfl rfl ?_
 refine GX.step0 (heap' := [(0, .box [.int .u32 0, .int .u32 0, .int .i64 0, .bool false, .int .u32 0, .nils, .nils, .int .i64 0, .int .i64 0, .bool false, .bool false, .bool false, .int .u32 0, .nils]), (1, .box [.int .i64 0, .int .i64 0, .bool false, .bool false, .bool false, .int .u32 0, .nils]), (2, .box [.int .i64 1500, .int .i64 2, .bool true, .bool true, .bool true, .int .u32 seq2, .nils])]) (next' := 3) rfl rfl rfl rfl rfl ?_
 refine GX.done ?_
 refine WK.seq ?_
 refine WK.drawn mixed ?_
 iterate 4 refine RD.m rfl ?_
 rcases bool_two (decide (heads3.length < 1099511627776)) with hg1 | hg1
 ·simp only [hg1, bb] at hR
  try dsimp only at hR
  cases hR
 simp only [hg1, bb] at hR
 have hg1_ := of_decide_eq_true hg1
 refine RD.callx (r' := .own 3 8 0 heads3.length) (heap' := [(0, .box [.int .u32 0, .int .u32 0, .int .i64 0, .bool false, .int .u32 0, .nils, .nils, .int .i64 0, .int .i64 0, .bool false, .bool false, .bool false, .int .u32 0, .nils]), (1, .box [.int .i64 0, .int .i64 0, .bool false, .bool false, .bool false, .int .u32 0, .nils]), (2, .box [.int .i64 1500, .int .i64 2, .bool true, .bool true, .bool true, .int .u32 seq2, .nils]), (3, .row 8 67 (heads3.map THeader.c))]) (next' := 4) [] [] rfl rfl rfl rfl rfl rfl (clone_okT (c := THeader.c) mixed i27 heads3 (by decide) (by omega) (by omega)) (.inl rfl) rfl rfl rfl ?_
 refine RD.q (.agg [.int .i64 1500, .int .i64 2, .bool true, .bool true, .bool true, .int .u32 seq2, .nils]) ?_
 refine RD.q (.agg [.int .u32 own0, .int .u32 peer1, .int .i64 0, .bool false, .int .u32 seq2, .own 3 8 0 heads3.length, .nils, .int .i64 1500, .int .i64 2, .bool true, .bool true, .bool true, .int .u32 seq2, .nils]) ?_
 refine RD.q (.agg [.int .i64 1500, .int .i64 2, .bool true, .bool true, .bool true, .int .u32 seq2, .nils]) ?_
 refine RD.step0 (heap' := [(0, .box [.int .u32 own0, .int .u32 peer1, .int .i64 0, .bool false, .int .u32 seq2, .own 3 8 0 heads3.length, .nils, .int .i64 1500, .int .i64 2, .bool true, .bool true, .bool true, .int .u32 seq2, .nils]), (1, .box [.int .i64 0, .int .i64 0, .bool false, .bool false, .bool false, .int .u32 0, .nils]), (2, .box [.int .i64 1500, .int .i64 2, .bool true, .bool true, .bool true, .int .u32 seq2, .nils]), (3, .row 8 67 (heads3.map THeader.c))]) (next' := 4) rfl rfl rfl rfl rfl ?_
 refine RD.step0 (heap' := [(0, .box [.int .u32 own0, .int .u32 peer1, .int .i64 0, .bool false, .int .u32 seq2, .own 3 8 0 heads3.length, .nils, .int .i64 1500, .int .i64 2, .bool true, .bool true, .bool true, .int .u32 seq2, .nils]), (1, .box [.int .i64 1500, .int .i64 2, .bool true, .bool true, .bool true, .int .u32 seq2, .nils]), (2, .box [.int .i64 1500, .int .i64 2, .bool true, .bool true, .bool true, .int .u32 seq2, .nils]), (3, .row 8 67 (heads3.map THeader.c))]) (next' := 4) rfl rfl rfl rfl rfl ?_
 refine RD.done rfl ?_
 refine WK.ret ?_
 obtain rfl := Option.some.inj hR
 exact RetQ.frw [3] (.inr rfl) rfl rfl (viewGo_cons (viewP_agg (viewGo_cons rfl (viewGo_cons rfl (viewGo_cons rfl (viewGo_cons rfl (viewGo_cons rfl (viewGo_cons (view_rowT rfl rfl) (viewGo_cons rfl (viewGo_cons rfl (viewGo_cons rfl (viewGo_cons rfl (viewGo_cons rfl (viewGo_cons rfl (viewGo_cons rfl (viewGo_cons rfl viewGo_nil))))))))))))))) (viewGo_cons rfl viewGo_nil)) (.tup (.cons (.agg (.cons .refl (.cons .refl (.cons .refl (.cons .refl (.cons .refl (.cons .refl (.cons .nil (.cons .refl (.cons .refl (.cons .refl (.cons .refl (.cons .refl (.cons .refl (.cons .nil .refl))))))))))))))) (.cons (.agg (.cons .refl (.cons .refl (.cons .refl (.cons .refl (.cons .refl (.cons .refl (.cons .nil .refl)))))))) .refl)))

theorem f65_ok (t0 : TTalk) (d1 : TDesc) (R : TTalk) (hR : F65_exch_talk_send t0 d1 = R) : FnOk Try.prog 65 [.ptr 0 0, .agg (TDesc.c d1)] [(0, .box (TTalk.c t0))] 1 (.tup []) [(0, .box (TTalk.c R))] 1 := by
 refine FnOk.wk i65 rfl rfl ?_
 unfold F65_exch_talk_send at hR
 change WK _ _ _ [ac65] _ ⟨[(0, .ptr 0 0), (1, .agg (TDesc.c d1))], [(0, .box (TTalk.c t0))], 1⟩
 unfold ac65
 refine WK.sr mixed ?_
 refine GX.step (v' := .ptr 1 0) (heap' := [(0, .box (TTalk.c t0)), (1, .box (TDesc.c d1))]) (next' := 2) rfl rfl rfl rfl rfl rfl rfl ?_
 refine GX.done ?_
 refine WK.drawn mixed ?_
 iterate 3 refine RD.m rfl ?_
 iterate 2 refine RD.q (.agg (TDesc.c d1)) ?_
 refine RD.q (.ptr 0 0) ?_
 refine RD.q (.ptr 0 14) ?_
 refine RD.step0 (heap' := [(0, .box [.int .u32 t0.Session.Own, .int .u32 t0.Session.Peer, .int .i64 t0.Session.Phase, .bool t0.Session.Leads, .int .u32 t0.Session.Seq, .ro 8 (t0.Session.Left.map THeader.c), .ro 8 (t0.Session.Got.map THeader.c), .int .i64 t0.Session.Last.MTU, .int .i64 t0.Session.Last.Options, .bool t0.Session.Last.Init, .bool t0.Session.Last.More, .bool t0.Session.Last.Master, .int .u32 t0.Session.Last.Seq, .ro 8 (t0.Session.Last.Heads.map THeader.c), .int .i64 d1.MTU, .int .i64 d1.Options, .bool d1.Init, .bool d1.More, .bool d1.Master, .int .u32 d1.Seq, .ro 8 (d1.Heads.map THeader.c), .bool t0.sent, .int .i64 t0.e]), (1, .box (TDesc.c d1))]) (next' := 2) rfl rfl rfl rfl rfl ?_
 refine RD.q (.ptr 0 0) ?_
 refine RD.q (.ptr 0 21) ?_
 refine RD.step0 (heap' := [(0, .box [.int .u32 t0.Session.Own, .int .u32 t0.Session.Peer, .int .i64 t0.Session.Phase, .bool t0.Session.Leads, .int .u32 t0.Session.Seq, .ro 8 (t0.Session.Left.map THeader.c), .ro 8 (t0.Session.Got.map THeader.c), .int .i64 t0.Session.Last.MTU, .int .i64 t0.Session.Last.Options, .bool t0.Session.Last.Init, .bool t0.Session.Last.More, .bool t0.Session.Last.Master, .int .u32 t0.Session.Last.Seq, .ro 8 (t0.Session.Last.Heads.map THeader.c), .int .i64 d1.MTU, .int .i64 d1.Options, .bool d1.Init, .bool d1.More, .bool d1.Master, .int .u32 d1.Seq, .ro 8 (d1.Heads.map THeader.c), .bool true, .int .i64 t0.e]), (1, .box (TDesc.c d1))]) (next' := 2) rfl rfl rfl rfl rfl ?_
 iterate 2 refine RD.q (.ptr 0 0) ?_
 refine RD.q (.ptr 0 7) ?_
 refine RD.step0 (heap' := [(0, .box [.int .u32 t0.Session.Own, .int .u32 t0.Session.Peer, .int .i64 t0.Session.Phase, .bool t0.Session.Leads, .int .u32 t0.Session.Seq, .ro 8 (t0.Session.Left.map THeader.c), .ro 8 (t0.Session.Got.map THeader.c), .int .i64 d1.MTU, .int .i64 d1.Options, .bool d1.Init, .bool d1.More, .bool d1.Master, .int .u32 d1.Seq, .ro 8 (d1.Heads.map THeader.c), .int .i64 d1.MTU, .int .i64 d1.Options, .bool d1.Init, .bool d1.More, .bool d1.Master, .int .u32 d1.Seq, .ro 8 (d1.Heads.map THeader.c), .bool true, .int .i64 t0.e]), (1, .box (TDesc.c d1))]) (next' := 2) rfl rfl rfl rfl rfl ?_
 refine RD.done rfl ?_
 refine WK.nil ?_
 subst hR
 exact RetQ.ret [0] [] (.inl rfl) rfl rfl rfl rfl rfl .refl rfl

theorem f63_ok (t0 : TTalk) (R : TTalk) (hR : F63_exch_talk_page t0 = some R) : FnOk Try.prog 63 [.ptr 0 0] [(0, .box (TTalk.c t0))] 1 (.tup []) [(0, .box (TTalk.c R))] 1 := by
 refine FnOk.wk i63 rfl rfl ?_
 unfold F63_exch_talk_page at hR
 try dsimp only at hR
 change WK _ _ _ [ac63] _ ⟨[(0, .ptr 0 0)], [(0, .box (TTalk.c t0))], 1⟩
 unfold ac63
 refine WK.sr mixed ?_
 refine GX.m rfl ?_
 iterate 2 refine GX.q (.ptr 0 0) ?_
 refine GX.q (.ptr 0 5) ?_
 refine GX.q (.ro 8 (t0.Session.Left.map THeader.c)) ?_
 refine GX.pure (v' := .int .i64 (t0.Session.Left.length : Int)) rfl rfl rfl rfl (len_map _ _) ?_
 refine GX.q (.int .i64 (min_ 10 (t0.Session.Left.length : Int))) ?_
 refine GX.m rfl ?_
 refine GX.done ?_
 refine WK.seq ?_
 refine WK.drawn mixed ?_
 iterate 2 refine RD.m rfl ?_
 iterate 2 refine RD.q (.ptr 0 0) ?_
 refine RD.q (.ptr 0 5) ?_
 refine RD.q (.ro 8 (t0.Session.Left.map THeader.c)) ?_
 refine RD.pure (v' := .int .i64 (t0.Session.Left.length : Int)) rfl rfl rfl rfl (len_map _ _) ?_
 refine RD.q (.bool (decide (min_ 10 (t0.Session.Left.length : Int) < (t0.Session.Left.length : Int)))) ?_
 refine RD.m rfl ?_
 iterate 2 refine RD.q (.ptr 0 0) ?_
 refine RD.q (.ptr 0 3) ?_
 refine RD.q (.bool t0.Session.Leads) ?_
 refine RD.m rfl ?_
 iterate 2 refine RD.q (.ptr 0 0) ?_
 refine RD.q (.ptr 0 4) ?_
 refine RD.q (.int .u32 t0.Session.Seq) ?_
 refine RD.m rfl ?_
 iterate 2 refine RD.q (.ptr 0 0) ?_
 refine RD.q (.ptr 0 5) ?_
 refine RD.q (.ro 8 (t0.Session.Left.map THeader.c)) ?_
 refine RD.m rfl ?_
 rcases bool_two (decide ((0 : Int) ≤ min_ 10 (t0.Session.Left.length : Int))) with hg1 | hg1
 ·simp only [hg1, bb] at hR
  try dsimp only at hR
  cases hR
 simp only [hg1, bb] at hR
 have hg1_ := of_decide_eq_true hg1
 rcases bool_two (decide (min_ 10 (t0.Session.Left.length : Int) ≤ (t0.Session.Left.length : Int))) with hg2 | hg2
 ·simp only [hg2, bb] at hR
  try dsimp only at hR
  cases hR
 simp only [hg2, bb] at hR
 have hg2_ := of_decide_eq_true hg2
 refine RD.sliceHi (c := THeader.c) (M := (t0.Session.Left.take (min_ 10 (t0.Session.Left.length : Int)).toNat)) rfl rfl rfl (by omega) (by omega) rfl ?_
 rcases bool_two (decide ((t0.Session.Left.take (min_ 10 (t0.Session.Left.length : Int)).toNat).length < 1099511627776)) with hg3 | hg3
 ·simp only [hg3, bb] at hR
  try dsimp only at hR
  cases hR
 simp only [hg3, bb] at hR
 have hg3_ := of_decide_eq_true hg3
 refine RD.callx (r' := .own 1 8 0 (t0.Session.Left.take (min_ 10 (t0.Session.Left.length : Int)).toNat).length) (heap' := [(0, .box (TTalk.c t0)), (1, .row 8 67 ((t0.Session.Left.take (min_ 10 (t0.Session.Left.length : Int)).toNat).map THeader.c))]) (next' := 2) [] [] rfl rfl rfl rfl rfl rfl (clone_okT (c := THeader.c) mixed i27 (t0.Session.Left.take (min_ 10 (t0.Session.Left.length : Int)).toNat) (by decide) (by omega) (by omega)) (.inl rfl) rfl rfl rfl ?_
 refine RD.q (.agg [.int .i64 1500, .int .i64 2, .bool false, .bool (decide (min_ 10 (t0.Session.Left.length : Int) < (t0.Session.Left.length : Int))), .bool t0.Session.Leads, .int .u32 t0.Session.Seq, .own 1 8 0 (t0.Session.Left.take (min_ 10 (t0.Session.Left.length : Int)).toNat).length]) ?_
 refine RD.step (v' := .ptr 2 0) (heap' := [(0, .box (TTalk.c t0)), (1, .row 8 67 ((t0.Session.Left.take (min_ 10 (t0.Session.Left.length : Int)).toNat).map THeader.c)), (2, .box [.int .i64 0, .int .i64 0, .bool false, .bool false, .bool false, .int .u32 0, .nils])]) (next' := 3) rfl rfl rfl rfl rfl rfl rfl ?_
 refine RD.step0 (heap' := [(0, .box (TTalk.c t0)), (1, .row 8 67 ((t0.Session.Left.take (min_ 10 (t0.Session.Left.length : Int)).toNat).map THeader.c)), (2, .box [.int .i64 1500, .int .i64 2, .bool false, .bool (decide (min_ 10 (t0.Session.Left.length : Int) < (t0.Session.Left.length : Int))), .bool t0.Session.Leads, .int .u32 t0.Session.Seq, .own 1 8 0 (t0.Session.Left.take (min_ 10 (t0.Session.Left.length : Int)).toNat).length])]) (next' := 3) rfl rfl rfl rfl rfl ?_
 refine RD.doneB [0, 0, 2, 6, 14, 30, 62, 127, 0, 256, 768, 1792, 3840, 0, 8192, 24576, 57344, 122880, 0, 262144, 786432, 1835008, 3932160, 0, 16515072, 33292288, 67108863, 0, 268435455] (by kernel_rfl) (by kernel_rfl) (by kernel_rfl) ?_
 refine WK.sr mixed ?_
 iterate 2 refine GX.m rfl ?_
 iterate 2 refine GX.q (.ptr 0 0) ?_
 refine GX.q (.ptr 0 5) ?_
 refine GX.q (.ro 8 (t0.Session.Left.map THeader.c)) ?_
 refine GX.m rfl ?_
 refine GX.sliceLo (c := THeader.c) (M := (t0.Session.Left.drop (min_ 10 (t0.Session.Left.length : Int)).toNat)) rfl rfl rfl (by omega) (by omega) rfl ?_
 rcases bool_two (decide ((t0.Session.Left.drop (min_ 10 (t0.Session.Left.length : Int)).toNat).length < 1099511627776)) with hg4 | hg4
 ·simp only [hg4, bb] at hR
  try dsimp only at hR
  cases hR
 simp only [hg4, bb] at hR
 have hg4_ := of_decide_eq_true hg4
 refine GX.callx (r' := .own 3 8 0 (t0.Session.Left.drop (min_ 10 (t0.Session.Left.length : Int)).toNat).length) (heap' := [(0, .box (TTalk.c t0)), (1, .row 8 67 ((t0.Session.Left.take (min_ 10 (t0.Session.Left.length : Int)).toNat).map THeader.c)), (2, .box [.int .i64 1500, .int .i64 2, .bool false, .bool (decide (min_ 10 (t0.Session.Left.length : Int) < (t0.Session.Left.length : Int))), .bool t0.Session.Leads, .int .u32 t0.Session.Seq, .own 1 8 0 (t0.Session.Left.take (min_ 10 (t0.Session.Left.length : Int)).toNat).length]), (3, .row 8 67 ((t0.Session.Left.drop (min_ 10 (t0.Session.Left.length : Int)).toNat).map THeader.c))]) (next' := 4) [] [] rfl rfl rfl rfl rfl rfl (clone_okT (c := THeader.c) mixed i27 (t0.Session.Left.drop (min_ 10 (t0.Session.Left.length : Int)).toNat) (by decide) (by omega) (by omega)) (.inl rfl) rfl rfl rfl ?_
 iterate 2 refine GX.q (.ptr 0 0) ?_
 refine GX.q (.ptr 0 5) ?_
 refine GX.step0 (heap' := [(0, .box [.int .u32 t0.Session.Own, .int .u32 t0.Session.Peer, .int .i64 t0.Session.Phase, .bool t0.Session.Leads, .int .u32 t0.Session.Seq, .own 3 8 0 (t0.Session.Left.drop (min_ 10 (t0.Session.Left.length : Int)).toNat).length, .ro 8 (t0.Session.Got.map THeader.c), .int .i64 t0.Session.Last.MTU, .int .i64 t0.Session.Last.Options, .bool t0.Session.Last.Init, .bool t0.Session.Last.More, .bool t0.Session.Last.Master, .int .u32 t0.Session.Last.Seq, .ro 8 (t0.Session.Last.Heads.map THeader.c), .int .i64 t0.out.MTU, .int .i64 t0.out.Options, .bool t0.out.Init, .bool t0.out.More, .bool t0.out.Master, .int .u32 t0.out.Seq, .ro 8 (t0.out.Heads.map THeader.c), .bool t0.sent, .int .i64 t0.e]), (1, .row 8 67 ((t0.Session.Left.take (min_ 10 (t0.Session.Left.length : Int)).toNat).map THeader.c)), (2, .box [.int .i64 1500, .int .i64 2, .bool false, .bool (decide (min_ 10 (t0.Session.Left.length : Int) < (t0.Session.Left.length : Int))), .bool t0.Session.Leads, .int .u32 t0.Session.Seq, .own 1 8 0 (t0.Session.Left.take (min_ 10 (t0.Session.Left.length : Int)).toNat).length]), (3, .row 8 67 ((t0.Session.Left.drop (min_ 10 (t0.Session.Left.length : Int)).toNat).map THeader.c))]) (next' := 4) rfl rfl rfl rfl rfl ?_
 refine GX.done ?_
 refine WK.conv (st' := ⟨[(0, .ptr 0 0), (3, .ptr 1 0)], [(0, .box [.int .u32 t0.Session.Own, .int .u32 t0.Session.Peer, .int .i64 t0.Session.Phase, .bool t0.Session.Leads, .int .u32 t0.Session.Seq, .ro 8 ((t0.Session.Left.drop (min_ 10 (t0.Session.Left.length : Int)).toNat).map THeader.c), .ro 8 (t0.Session.Got.map THeader.c), .int .i64 t0.Session.Last.MTU, .int .i64 t0.Session.Last.Options, .bool t0.Session.Last.Init, .bool t0.Session.Last.More, .bool t0.Session.Last.Master, .int .u32 t0.Session.Last.Seq, .ro 8 (t0.Session.Last.Heads.map THeader.c), .int .i64 t0.out.MTU, .int .i64 t0.out.Options, .bool t0.out.Init, .bool t0.out.More, .bool t0.out.Master, .int .u32 t0.out.Seq, .ro 8 (t0.out.Heads.map THeader.c), .bool t0.sent, .int .i64 t0.e]), (1, .box [.int .i64 1500, .int .i64 2, .bool false, .bool (decide (min_ 10 (t0.Session.Left.length : Int) < (t0.Session.Left.length : Int))), .bool t0.Session.Leads, .int .u32 t0.Session.Seq, .own 2 8 0 (t0.Session.Left.take (min_ 10 (t0.Session.Left.length : Int)).toNat).length]), (2, .row 8 67 ((t0.Session.Left.take (min_ 10 (t0.Session.Left.length : Int)).toNat).map THeader.c))], 3⟩) (Conv.keep [0, 2, 1] [3] [0, 3] rfl rfl (viewE_cons rfl rfl (viewE_cons rfl rfl viewE_nil)) (subH_cons rfl (viewO_box (viewGo_cons rfl (viewGo_cons rfl (viewGo_cons rfl (viewGo_cons rfl (viewGo_cons rfl (viewGo_cons (view_rowT rfl rfl) (viewGo_cons rfl (viewGo_cons rfl (viewGo_cons rfl (viewGo_cons rfl (viewGo_cons rfl (viewGo_cons rfl (viewGo_cons rfl (viewGo_cons rfl (viewGo_cons rfl (viewGo_cons rfl (viewGo_cons rfl (viewGo_cons rfl (viewGo_cons rfl (viewGo_cons rfl (viewGo_cons rfl (viewGo_cons rfl (viewGo_cons rfl viewGo_nil)))))))))))))))))))))))) (subH_cons rfl rfl (subH_cons rfl rfl subH_nil))) rfl) ?_ (by simp)
 refine WK.conv (st' := ⟨[(0, .ptr 0 0), (3, .ptr 1 0)], [(0, .box [.int .u32 t0.Session.Own, .int .u32 t0.Session.Peer, .int .i64 t0.Session.Phase, .bool t0.Session.Leads, .int .u32 t0.Session.Seq, .ro 8 ((t0.Session.Left.drop (min_ 10 (t0.Session.Left.length : Int)).toNat).map THeader.c), .ro 8 (t0.Session.Got.map THeader.c), .int .i64 t0.Session.Last.MTU, .int .i64 t0.Session.Last.Options, .bool t0.Session.Last.Init, .bool t0.Session.Last.More, .bool t0.Session.Last.Master, .int .u32 t0.Session.Last.Seq, .ro 8 (t0.Session.Last.Heads.map THeader.c), .int .i64 t0.out.MTU, .int .i64 t0.out.Options, .bool t0.out.Init, .bool t0.out.More, .bool t0.out.Master, .int .u32 t0.out.Seq, .ro 8 (t0.out.Heads.map THeader.c), .bool t0.sent, .int .i64 t0.e]), (1, .box [.int .i64 1500, .int .i64 2, .bool false, .bool (decide (min_ 10 (t0.Session.Left.length : Int) < (t0.Session.Left.length : Int))), .bool t0.Session.Leads, .int .u32 t0.Session.Seq, .ro 8 ((t0.Session.Left.take (min_ 10 (t0.Session.Left.length : Int)).toNat).map THeader.c)])], 2⟩) (Conv.keep [0, 1] [2] [0, 3] rfl rfl (viewE_cons rfl rfl (viewE_cons rfl rfl viewE_nil)) (subH_cons rfl rfl (subH_cons rfl (viewO_box (viewGo_cons rfl (viewGo_cons rfl (viewGo_cons rfl (viewGo_cons rfl (viewGo_cons rfl (viewGo_cons rfl (viewGo_cons (view_rowT rfl rfl) viewGo_nil)))))))) subH_nil)) rfl) ?_ (by simp)
 refine WK.regx mixed ?_
 refine GX.m rfl ?_
 refine GX.q (.agg [.int .i64 1500, .int .i64 2, .bool false, .bool (decide (min_ 10 (t0.Session.Left.length : Int) < (t0.Session.Left.length : Int))), .bool t0.Session.Leads, .int .u32 t0.Session.Seq, .ro 8 ((t0.Session.Left.take (min_ 10 (t0.Session.Left.length : Int)).toNat).map THeader.c)]) ?_
 generalize hc52 : F65_exch_talk_send (⟨(⟨t0.Session.Own, t0.Session.Peer, t0.Session.Phase, t0.Session.Leads, t0.Session.Seq, (t0.Session.Left.drop (min_ 10 (t0.Session.Left.length : Int)).toNat), t0.Session.Got, t0.Session.Last⟩ : TSession), t0.out, t0.sent, t0.e⟩ : TTalk) (⟨1500, 2, false, decide (min_ 10 (t0.Session.Left.length : Int) < (t0.Session.Left.length : Int)), t0.Session.Leads, t0.Session.Seq, (t0.Session.Left.take (min_ 10 (t0.Session.Left.length : Int)).toNat)⟩ : TDesc) = c52 at hR
 try dsimp only at hR
 refine GX.callx (r' := .tup []) (heap' := [(0, .box (TTalk.c c52)), (1, .box [.int .i64 1500, .int .i64 2, .bool false, .bool (decide (min_ 10 (t0.Session.Left.length : Int) < (t0.Session.Left.length : Int))), .bool t0.Session.Leads, .int .u32 t0.Session.Seq, .ro 8 ((t0.Session.Left.take (min_ 10 (t0.Session.Left.length : Int)).toNat).map THeader.c)])]) (next' := 2) [0] [] rfl rfl rfl rfl rfl rfl (f65_ok (⟨(⟨t0.Session.Own, t0.Session.Peer, t0.Session.Phase, t0.Session.Leads, t0.Session.Seq, (t0.Session.Left.drop (min_ 10 (t0.Session.Left.length : Int)).toNat), t0.Session.Got, t0.Session.Last⟩ : TSession), t0.out, t0.sent, t0.e⟩ : TTalk) (⟨1500, 2, false, decide (min_ 10 (t0.Session.Left.length : Int) < (t0.Session.Left.length : Int)), t0.Session.Leads, t0.Session.Seq, (t0.Session.Left.take (min_ 10 (t0.Session.Left.length : Int)).toNat)⟩ : TDesc) _ hc52) (.inl rfl) rfl rfl rfl ?_
 refine GX.done ?_
 refine WK.nil ?_
 obtain rfl := Option.some.inj hR
 exact RetQ.ret [0] [] (.inl rfl) rfl rfl rfl rfl rfl .refl rfl

theorem f64_ok (t0 : TTalk) (d1 : TDesc) (R : TTalk) (hR : F64_exch_talk_take t0 d1 = some R) : FnOk Try.prog 64 [.ptr 0 0, .agg (TDesc.c d1)] [(0, .box (TTalk.c t0))] 1 (.tup []) [(0, .box (TTalk.c R))] 1 := by
 refine FnOk.wk i64 rfl rfl ?_
 unfold F64_exch_talk_take at hR
 try dsimp only at hR
 change WK _ _ _ [ac64] _ ⟨[(0, .ptr 0 0), (1, .agg (TDesc.c d1))], [(0, .box (TTalk.c t0))], 1⟩
 unfold ac64
 refine WK.sr mixed ?_
 refine GX.step (v' := .ptr 1 0) (heap' := [(0, .box (TTalk.c t0)), (1, .box (TDesc.c d1))]) (next' := 2) rfl rfl rfl rfl rfl rfl rfl ?_
 refine GX.done ?_
 refine WK.drawn mixed ?_
 iterate 2 refine RD.m rfl ?_
 iterate 2 refine RD.q (.ptr 0 0) ?_
 refine RD.q (.ptr 0 6) ?_
 refine RD.q (.ro 8 (t0.Session.Got.map THeader.c)) ?_
 refine RD.q (.ptr 1 6) ?_
 refine RD.q (.ro 8 (d1.Heads.map THeader.c)) ?_
 refine RD.bsro (es := (([t0.Session.Got, d1.Heads] : List (List THeader))).map (c_row 8 THeader.c)) rfl rfl rfl rfl ?_
 rcases bool_two (decide (t0.Session.Got.length < 1099511627776)) with hg1 | hg1
 ·simp only [hg1, bb] at hR
  try dsimp only at hR
  cases hR
 simp only [hg1, bb] at hR
 have hg1_ := of_decide_eq_true hg1
 rcases bool_two (decide (d1.Heads.length < 1099511627776)) with hg2 | hg2
 ·simp only [hg2, bb] at hR
  try dsimp only at hR
  cases hR
 simp only [hg2, bb] at hR
 have hg2_ := of_decide_eq_true hg2
 refine RD.callp (r := .ro 8 ((t0.Session.Got ++ d1.Heads).map THeader.c)) rfl rfl rfl (concat_okF (c := THeader.c) mixed i79 i83 t0.Session.Got d1.Heads (by decide) (by omega) (by omega)) rfl rfl ?_
 iterate 2 refine RD.q (.ptr 0 0) ?_
 refine RD.q (.ptr 0 6) ?_
 refine RD.step0 (heap' := [(0, .box [.int .u32 t0.Session.Own, .int .u32 t0.Session.Peer, .int .i64 t0.Session.Phase, .bool t0.Session.Leads, .int .u32 t0.Session.Seq, .ro 8 (t0.Session.Left.map THeader.c), .ro 8 ((t0.Session.Got ++ d1.Heads).map THeader.c), .int .i64 t0.Session.Last.MTU, .int .i64 t0.Session.Last.Options, .bool t0.Session.Last.Init, .bool t0.Session.Last.More, .bool t0.Session.Last.Master, .int .u32 t0.Session.Last.Seq, .ro 8 (t0.Session.Last.Heads.map THeader.c), .int .i64 t0.out.MTU, .int .i64 t0.out.Options, .bool t0.out.Init, .bool t0.out.More, .bool t0.out.Master, .int .u32 t0.out.Seq, .ro 8 (t0.out.Heads.map THeader.c), .bool t0.sent, .int .i64 t0.e]), (1, .box (TDesc.c d1))]) (next' := 2) rfl rfl rfl rfl rfl ?_
 refine RD.done rfl ?_
 refine WK.nil ?_
 obtain rfl := Option.some.inj hR
 exact RetQ.ret [0] [] (.inl rfl) rfl rfl rfl rfl rfl .refl rfl

theorem f46_ok (t0 : TTalk) (d1 : TDesc) (R : TTalk) (hR : F46_exch_talk_lead t0 d1 = some R) : FnOk Try.prog 46 [.ptr 0 0, .agg (TDesc.c d1)] [(0, .box (TTalk.c t0))] 1 (.tup []) [(0, .box (TTalk.c R))] 1 := by
 refine FnOk.wk i46 rfl rfl ?_
 unfold F46_exch_talk_lead at hR
 try dsimp only at hR
 change WK _ _ _ [ac46] _ ⟨[(0, .ptr 0 0), (1, .agg (TDesc.c d1))], [(0, .box (TTalk.c t0))], 1⟩
 unfold ac46
 refine WK.sr mixed ?_
 refine GX.step (v' := .ptr 1 0) (heap' := [(0, .box (TTalk.c t0)), (1, .box (TDesc.c d1))]) (next' := 2) rfl rfl rfl rfl rfl rfl rfl ?_
 refine GX.done ?_
 refine WK.seq ?_
 refine WK.blockK (fun _ hK1 => ?_)
 refine WK.seq ?_
 refine WK.drawn mixed ?_
 refine RD.q (.ptr 1 5) ?_
 refine RD.q (.int .u32 d1.Seq) ?_
 refine RD.m rfl ?_
 iterate 2 refine RD.q (.ptr 0 0) ?_
 refine RD.q (.ptr 0 4) ?_
 refine RD.q (.int .u32 t0.Session.Seq) ?_
 refine RD.q (.int .u32 (IntKind.u32.wrap (t0.Session.Seq - 1))) ?_
 refine RD.q (.bool (decide (d1.Seq = IntKind.u32.wrap (t0.Session.Seq - 1)))) ?_
 refine RD.m rfl ?_
 rcases bool_two (decide (d1.Seq = IntKind.u32.wrap (t0.Session.Seq - 1))) with hb2 | hb2
 ·rw [hb2]; first | replace hR := cond_f hb2 hR | (try simp only [hb2, bb] at hR)
  refine RD.q (.ptr 1 5) ?_
  refine RD.q (.int .u32 d1.Seq) ?_
  refine RD.m rfl ?_
  iterate 2 refine RD.q (.ptr 0 0) ?_
  refine RD.q (.ptr 0 4) ?_
  refine RD.q (.int .u32 t0.Session.Seq) ?_
  refine RD.q (.bool (decide (d1.Seq = t0.Session.Seq))) ?_
  refine RD.m rfl ?_
  rcases bool_two (decide (d1.Seq = t0.Session.Seq)) with hb3 | hb3
  ·rw [hb3]; first | replace hR := cond_f hb3 hR | (try simp only [hb3, bb] at hR)
   iterate 6 refine RD.skip rfl rfl ?_
   iterate 2 refine RD.q (.bool false) ?_
   refine RD.m rfl ?_
   refine RD.doneB [0, 1, 0, 4, 12, 28, 60, 124, 255, 511, 1023, 2047, 1023, 5119, 13311, 29695, 62463, 131071, 262143, 524287, 1048575, 2097151, 4194303, 8388607, 16777215, 33554431, 67108863, 134217727] (by kernel_rfl) (by kernel_rfl) (by kernel_rfl) ?_
   refine WK.condF rfl ?_
   refine WK.seq ?_
   refine WK.drawn mixed ?_
   refine RD.q (.ptr 1 5) ?_
   refine RD.q (.int .u32 d1.Seq) ?_
   refine RD.m rfl ?_
   iterate 2 refine RD.q (.ptr 0 0) ?_
   refine RD.q (.ptr 0 4) ?_
   refine RD.q (.int .u32 t0.Session.Seq) ?_
   refine RD.q (.bool (!decide (d1.Seq = t0.Session.Seq))) ?_
   refine RD.m rfl ?_
   refine RD.done rfl ?_
   rw [hb3]
   refine WK.condT rfl ?_
   refine WK.sr mixed ?_
   refine GX.m rfl ?_
   refine GX.q (.ptr 0 0) ?_
   refine GX.q (.ptr 0 22) ?_
   refine GX.step0 (heap' := [(0, .box [.int .u32 t0.Session.Own, .int .u32 t0.Session.Peer, .int .i64 t0.Session.Phase, .bool t0.Session.Leads, .int .u32 t0.Session.Seq, .ro 8 (t0.Session.Left.map THeader.c), .ro 8 (t0.Session.Got.map THeader.c), .int .i64 t0.Session.Last.MTU, .int .i64 t0.Session.Last.Options, .bool t0.Session.Last.Init, .bool t0.Session.Last.More, .bool t0.Session.Last.Master, .int .u32 t0.Session.Last.Seq, .ro 8 (t0.Session.Last.Heads.map THeader.c), .int .i64 t0.out.MTU, .int .i64 t0.out.Options, .bool t0.out.Init, .bool t0.out.More, .bool t0.out.Master, .int .u32 t0.out.Seq, .ro 8 (t0.out.Heads.map THeader.c), .bool t0.sent, .int .i64 13]), (1, .box (TDesc.c d1))]) (next' := 2) rfl rfl rfl rfl rfl ?_
   refine GX.done ?_
   refine WK.ret ?_
   refine QF.ret ?_
   obtain rfl := Option.some.inj hR
   exact RetQ.ret [0] [] (.inr rfl) rfl rfl rfl rfl rfl .refl rfl
  ·rw [hb3]; first | replace hR := cond_t hb3 hR | (try simp only [hb3, bb] at hR)
   refine RD.m rfl ?_
   iterate 2 refine RD.q (.ptr 0 0) ?_
   refine RD.q (.ptr 0 2) ?_
   refine RD.q (.int .i64 t0.Session.Phase) ?_
   iterate 3 refine RD.q (.bool (decide (t0.Session.Phase = 2))) ?_
   refine RD.m rfl ?_
   refine RD.doneB [0, 1, 0, 4, 12, 28, 60, 124, 255, 511, 1023, 2047, 1023, 5119, 13311, 29695, 62463, 131071, 262143, 524287, 1048575, 2097151, 4194303, 8388607, 16777215, 33554431, 67108863, 134217727] (by kernel_rfl) (by kernel_rfl) (by kernel_rfl) ?_
   rcases bool_two (decide (t0.Session.Phase = 2)) with hb4 | hb4
   ·rw [hb4]; first | replace hR := cond_f hb4 hR | (try simp only [hb4, bb] at hR)
    refine WK.condF rfl ?_
    refine WK.seq ?_
    refine WK.drawn mixed ?_
    refine RD.q (.ptr 1 5) ?_
    refine RD.q (.int .u32 d1.Seq) ?_
    refine RD.m rfl ?_
    iterate 2 refine RD.q (.ptr 0 0) ?_
    refine RD.q (.ptr 0 4) ?_
    refine RD.q (.int .u32 t0.Session.Seq) ?_
    refine RD.q (.bool (!decide (d1.Seq = t0.Session.Seq))) ?_
    refine RD.m rfl ?_
    refine RD.done rfl ?_
    rw [hb3]
    refine WK.condF rfl ?_
    refine WK.skip ?_
    refine WK.nil (QF.normal (hK1 _ ?_))
    refine WK.sr mixed ?_
    refine GX.m rfl ?_
    refine GX.q (.agg (TDesc.c d1)) ?_
    generalize hc46 : F64_exch_talk_take t0 d1 = c46 at hR
    rcases c46 with _ | c46
    ·try dsimp only at hR
     cases hR
    try dsimp only at hR
    try dsimp only at hR
    refine GX.callx (r' := .tup []) (heap' := [(0, .box (TTalk.c c46)), (1, .box (TDesc.c d1))]) (next' := 2) [0] [] rfl rfl rfl rfl rfl rfl (f64_ok t0 d1 _ hc46) (.inl rfl) rfl rfl rfl ?_
    refine GX.done ?_
    refine WK.seq ?_
    refine WK.sr mixed ?_
    refine GX.m rfl ?_
    iterate 2 refine GX.q (.ptr 0 0) ?_
    refine GX.q (.ptr 0 7) ?_
    refine GX.q (.ptr 0 10) ?_
    refine GX.q (.bool c46.Session.Last.More) ?_
    refine GX.q (.bool (!c46.Session.Last.More)) ?_
    refine GX.m rfl ?_
    rcases bool_two (c46.Session.Last.More) with hb6 | hb6
    ·rw [hb6]; first | replace hR := cond_f hb6 hR | (try simp only [hb6, bb] at hR)
     refine GX.q (.ptr 1 3) ?_
     refine GX.q (.bool d1.More) ?_
     iterate 2 refine GX.q (.bool (!d1.More)) ?_
     refine GX.done ?_
     rcases bool_two (d1.More) with hb7 | hb7
     ·rw [hb7]; first | replace hR := cond_f hb7 hR | (try simp only [hb7, bb] at hR)
      refine WK.condT rfl ?_
      refine WK.sr mixed ?_
      refine GX.m rfl ?_
      iterate 2 refine GX.q (.ptr 0 0) ?_
      refine GX.q (.ptr 0 2) ?_
      refine GX.step0 (heap' := [(0, .box [.int .u32 c46.Session.Own, .int .u32 c46.Session.Peer, .int .i64 2, .bool c46.Session.Leads, .int .u32 c46.Session.Seq, .ro 8 (c46.Session.Left.map THeader.c), .ro 8 (c46.Session.Got.map THeader.c), .int .i64 c46.Session.Last.MTU, .int .i64 c46.Session.Last.Options, .bool c46.Session.Last.Init, .bool c46.Session.Last.More, .bool c46.Session.Last.Master, .int .u32 c46.Session.Last.Seq, .ro 8 (c46.Session.Last.Heads.map THeader.c), .int .i64 c46.out.MTU, .int .i64 c46.out.Options, .bool c46.out.Init, .bool c46.out.More, .bool c46.out.Master, .int .u32 c46.out.Seq, .ro 8 (c46.out.Heads.map THeader.c), .bool c46.sent, .int .i64 c46.e]), (1, .box (TDesc.c d1))]) (next' := 2) rfl rfl rfl rfl rfl ?_
      refine GX.done ?_
      refine WK.ret ?_
      obtain rfl := Option.some.inj hR
      exact RetQ.ret [0] [] (.inr rfl) rfl rfl rfl rfl rfl .refl rfl
     ·rw [hb7]; first | replace hR := cond_t hb7 hR | (try simp only [hb7, bb] at hR)
      refine WK.condF rfl ?_
      refine WK.skip ?_
      refine WK.sr mixed ?_
      refine GX.m rfl ?_
      iterate 2 refine GX.q (.ptr 0 0) ?_
      refine GX.q (.ptr 0 4) ?_
      refine GX.q (.int .u32 c46.Session.Seq) ?_
      refine GX.q (.int .u32 (IntKind.u32.wrap (c46.Session.Seq + 1))) ?_
      iterate 2 refine GX.q (.ptr 0 0) ?_
      refine GX.q (.ptr 0 4) ?_
      refine GX.step0 (heap' := [(0, .box [.int .u32 c46.Session.Own, .int .u32 c46.Session.Peer, .int .i64 c46.Session.Phase, .bool c46.Session.Leads, .int .u32 (IntKind.u32.wrap (c46.Session.Seq + 1)), .ro 8 (c46.Session.Left.map THeader.c), .ro 8 (c46.Session.Got.map THeader.c), .int .i64 c46.Session.Last.MTU, .int .i64 c46.Session.Last.Options, .bool c46.Session.Last.Init, .bool c46.Session.Last.More, .bool c46.Session.Last.Master, .int .u32 c46.Session.Last.Seq, .ro 8 (c46.Session.Last.Heads.map THeader.c), .int .i64 c46.out.MTU, .int .i64 c46.out.Options, .bool c46.out.Init, .bool c46.out.More, .bool c46.out.Master, .int .u32 c46.out.Seq, .ro 8 (c46.out.Heads.map THeader.c), .bool c46.sent, .int .i64 c46.e]), (1, .box (TDesc.c d1))]) (next' := 2) rfl rfl rfl rfl rfl ?_
      refine GX.done ?_
      refine WK.regx mixed ?_
      refine GX.m rfl ?_
      generalize hc73 : F63_exch_talk_page (⟨(⟨c46.Session.Own, c46.Session.Peer, c46.Session.Phase, c46.Session.Leads, IntKind.u32.wrap (c46.Session.Seq + 1), c46.Session.Left, c46.Session.Got, c46.Session.Last⟩ : TSession), c46.out, c46.sent, c46.e⟩ : TTalk) = c73 at hR
      rcases c73 with _ | c73
      ·try dsimp only at hR
       cases hR
      try dsimp only at hR
      try dsimp only at hR
      refine GX.callx (r' := .tup []) (heap' := [(0, .box (TTalk.c c73)), (1, .box (TDesc.c d1))]) (next' := 2) [0] [] rfl rfl rfl rfl rfl rfl (f63_ok (⟨(⟨c46.Session.Own, c46.Session.Peer, c46.Session.Phase, c46.Session.Leads, IntKind.u32.wrap (c46.Session.Seq + 1), c46.Session.Left, c46.Session.Got, c46.Session.Last⟩ : TSession), c46.out, c46.sent, c46.e⟩ : TTalk) _ hc73) (.inl rfl) rfl rfl rfl ?_
      refine GX.done ?_
      refine WK.nil ?_
      obtain rfl := Option.some.inj hR
      exact RetQ.ret [0] [] (.inl rfl) rfl rfl rfl rfl rfl .refl rfl
    ·rw [hb6]; first | replace hR := cond_t hb6 hR | (try simp only [hb6, bb] at hR)
     iterate 3 refine GX.skip rfl rfl ?_
     refine GX.q (.bool false) ?_
     refine GX.done ?_
     refine WK.condF rfl ?_
     refine WK.skip ?_
     refine WK.sr mixed ?_
     refine GX.m rfl ?_
     iterate 2 refine GX.q (.ptr 0 0) ?_
     refine GX.q (.ptr 0 4) ?_
     refine GX.q (.int .u32 c46.Session.Seq) ?_
     refine GX.q (.int .u32 (IntKind.u32.wrap (c46.Session.Seq + 1))) ?_
     iterate 2 refine GX.q (.ptr 0 0) ?_
     refine GX.q (.ptr 0 4) ?_
     refine GX.step0 (heap' := [(0, .box [.int .u32 c46.Session.Own, .int .u32 c46.Session.Peer, .int .i64 c46.Session.Phase, .bool c46.Session.Leads, .int .u32 (IntKind.u32.wrap (c46.Session.Seq + 1)), .ro 8 (c46.Session.Left.map THeader.c), .ro 8 (c46.Session.Got.map THeader.c), .int .i64 c46.Session.Last.MTU, .int .i64 c46.Session.Last.Options, .bool c46.Session.Last.Init, .bool c46.Session.Last.More, .bool c46.Session.Last.Master, .int .u32 c46.Session.Last.Seq, .ro 8 (c46.Session.Last.Heads.map THeader.c), .int .i64 c46.out.MTU, .int .i64 c46.out.Options, .bool c46.out.Init, .bool c46.out.More, .bool c46.out.Master, .int .u32 c46.out.Seq, .ro 8 (c46.out.Heads.map THeader.c), .bool c46.sent, .int .i64 c46.e]), (1, .box (TDesc.c d1))]) (next' := 2) rfl rfl rfl rfl rfl ?_
     refine GX.done ?_
     refine WK.regx mixed ?_
     refine GX.m rfl ?_
     generalize hc73 : F63_exch_talk_page (⟨(⟨c46.Session.Own, c46.Session.Peer, c46.Session.Phase, c46.Session.Leads, IntKind.u32.wrap (c46.Session.Seq + 1), c46.Session.Left, c46.Session.Got, c46.Session.Last⟩ : TSession), c46.out, c46.sent, c46.e⟩ : TTalk) = c73 at hR
     rcases c73 with _ | c73
     ·try dsimp only at hR
      cases hR
     try dsimp only at hR
     try dsimp only at hR
     refine GX.callx (r' := .tup []) (heap' := [(0, .box (TTalk.c c73)), (1, .box (TDesc.c d1))]) (next' := 2) [0] [] rfl rfl rfl rfl rfl rfl (f63_ok (⟨(⟨c46.Session.Own, c46.Session.Peer, c46.Session.Phase, c46.Session.Leads, IntKind.u32.wrap (c46.Session.Seq + 1), c46.Session.Left, c46.Session.Got, c46.Session.Last⟩ : TSession), c46.out, c46.sent, c46.e⟩ : TTalk) _ hc73) (.inl rfl) rfl rfl rfl ?_
     refine GX.done ?_
     refine WK.nil ?_
     obtain rfl := Option.some.inj hR
     exact RetQ.ret [0] [] (.inl rfl) rfl rfl rfl rfl rfl .refl rfl
   ·rw [hb4]; first | replace hR := cond_t hb4 hR | (try simp only [hb4, bb] at hR)
    refine WK.condT rfl ?_
    refine WK.ret ?_
    refine QF.ret ?_
    obtain rfl := Option.some.inj hR
    exact RetQ.ret [0] [] (.inr rfl) rfl rfl rfl rfl rfl .refl rfl
 ·rw [hb2]; first | replace hR := cond_t hb2 hR | (try simp only [hb2, bb] at hR)
  iterate 16 refine RD.skip rfl rfl ?_
  refine RD.q (.bool true) ?_
  refine RD.m rfl ?_
  refine RD.doneB [0, 1, 0, 4, 12, 28, 60, 124, 255, 511, 1023, 2047, 1023, 5119, 13311, 29695, 62463, 131071, 262143, 524287, 1048575, 2097151, 4194303, 8388607, 16777215, 33554431, 67108863, 134217727] (by kernel_rfl) (by kernel_rfl) (by kernel_rfl) ?_
  refine WK.condT rfl ?_
  refine WK.ret ?_
  refine QF.ret ?_
  obtain rfl := Option.some.inj hR
  exact RetQ.ret [0] [] (.inr rfl) rfl rfl rfl rfl rfl .refl rfl

theorem f44_ok (t0 : TTalk) (d1 : TDesc) (R : TTalk) (hR : F44_exch_talk_begin t0 d1 = some R) : FnOk Try.prog 44 [.ptr 0 0, .agg (TDesc.c d1)] [(0, .box (TTalk.c t0))] 1 (.tup []) [(0, .box (TTalk.c R))] 1 := by
 refine FnOk.wk i44 rfl rfl ?_
 unfold F44_exch_talk_begin at hR
 try dsimp only at hR
 change WK _ _ _ [ac44] _ ⟨[(0, .ptr 0 0), (1, .agg (TDesc.c d1))], [(0, .box (TTalk.c t0))], 1⟩
 unfold ac44
 refine WK.sr mixed ?_
 refine GX.step (v' := .ptr 1 0) (heap' := [(0, .box (TTalk.c t0)), (1, .box (TDesc.c d1))]) (next' := 2) rfl rfl rfl rfl rfl rfl rfl ?_
 refine GX.done ?_
 refine WK.sr mixed ?_
 refine GX.q (.ptr 1 2) ?_
 refine GX.q (.bool d1.Init) ?_
 refine GX.m rfl ?_
 rcases bool_two (d1.Init) with hb1 | hb1
 ·rw [hb1]; first | replace hR := cond_f hb1 hR | (try simp only [hb1, bb] at hR)
  iterate 2 refine GX.skip rfl rfl ?_
  refine GX.q (.bool false) ?_
  refine GX.m rfl ?_
  iterate 2 refine GX.skip rfl rfl ?_
  refine GX.q (.bool false) ?_
  refine GX.m rfl ?_
  iterate 4 refine GX.skip rfl rfl ?_
  refine GX.q (.bool false) ?_
  refine GX.m rfl ?_
  refine GX.done ?_
  refine WK.seq ?_
  refine WK.drawn mixed ?_
  refine RD.q (.ptr 1 2) ?_
  refine RD.pure (v' := .bool false) rfl rfl rfl rfl (congrArg PVal.bool hb1) ?_
  refine RD.q (.bool true) ?_
  refine RD.m rfl ?_
  refine RD.q (.ptr 1 4) ?_
  refine RD.q (.bool d1.Master) ?_
  iterate 2 refine RD.q (.bool (!d1.Master)) ?_
  refine RD.m rfl ?_
  rcases bool_two (d1.Master) with hb2 | hb2
  ·rw [hb2]; first | replace hR := cond_f hb2 hR | (try simp only [hb2, bb] at hR)
   refine RD.q (.ptr 1 5) ?_
   refine RD.q (.int .u32 d1.Seq) ?_
   refine RD.m rfl ?_
   iterate 2 refine RD.q (.ptr 0 0) ?_
   refine RD.q (.ptr 0 4) ?_
   refine RD.q (.int .u32 t0.Session.Seq) ?_
   iterate 2 refine RD.q (.bool (decide (d1.Seq = t0.Session.Seq))) ?_
   refine RD.m rfl ?_
   refine RD.done rfl ?_
   refine WK.blockK (fun _ hK3 => ?_)
   refine WK.seq ?_
   refine WK.drawn mixed ?_
   iterate 2 refine RD.m rfl ?_
   iterate 11 refine RD.skip rfl rfl ?_
   refine RD.q (.bool false) ?_
   refine RD.m rfl ?_
   refine RD.done rfl ?_
   refine WK.condF rfl ?_
   refine WK.seq ?_
   refine WK.drawn mixed ?_
   iterate 2 refine RD.m rfl ?_
   rcases bool_two (decide (d1.Seq = t0.Session.Seq)) with hb4 | hb4
   ·rw [hb4]; first | replace hR := cond_f hb4 hR | (try simp only [hb4, bb] at hR)
    iterate 11 refine RD.skip rfl rfl ?_
    refine RD.q (.bool false) ?_
    refine RD.m rfl ?_
    refine RD.done rfl ?_
    refine WK.condF rfl ?_
    refine WK.skip ?_
    refine WK.nil (QF.normal (hK3 _ ?_))
    refine WK.nil ?_
    obtain rfl := Option.some.inj hR
    exact RetQ.ret [0] [] (.inl rfl) rfl rfl rfl rfl rfl .refl rfl
   ·rw [hb4]; first | replace hR := cond_t hb4 hR | (try simp only [hb4, bb] at hR)
    refine RD.m rfl ?_
    iterate 2 refine RD.q (.ptr 0 0) ?_
    refine RD.q (.ptr 0 1) ?_
    refine RD.q (.int .u32 t0.Session.Peer) ?_
    refine RD.m rfl ?_
    iterate 3 refine RD.q (.ptr 0 0) ?_
    refine RD.q (.int .u32 t0.Session.Own) ?_
    iterate 2 refine RD.q (.bool (decide (t0.Session.Peer < t0.Session.Own))) ?_
    refine RD.m rfl ?_
    refine RD.done rfl ?_
    rcases bool_two (decide (t0.Session.Peer < t0.Session.Own)) with hb5 | hb5
    ·rw [hb5]; first | replace hR := cond_f hb5 hR | (try simp only [hb5, bb] at hR)
     refine WK.condF rfl ?_
     refine WK.skip ?_
     refine WK.nil (QF.normal (hK3 _ ?_))
     refine WK.nil ?_
     obtain rfl := Option.some.inj hR
     exact RetQ.ret [0] [] (.inl rfl) rfl rfl rfl rfl rfl .refl rfl
    ·rw [hb5]; first | replace hR := cond_t hb5 hR | (try simp only [hb5, bb] at hR)
     refine WK.condT rfl ?_
     refine WK.sr mixed ?_
     iterate 2 refine GX.m rfl ?_
     iterate 2 refine GX.q (.ptr 0 0) ?_
     refine GX.q (.ptr 0 2) ?_
     refine GX.step0 (heap' := [(0, .box [.int .u32 t0.Session.Own, .int .u32 t0.Session.Peer, .int .i64 1, .bool t0.Session.Leads, .int .u32 t0.Session.Seq, .ro 8 (t0.Session.Left.map THeader.c), .ro 8 (t0.Session.Got.map THeader.c), .int .i64 t0.Session.Last.MTU, .int .i64 t0.Session.Last.Options, .bool t0.Session.Last.Init, .bool t0.Session.Last.More, .bool t0.Session.Last.Master, .int .u32 t0.Session.Last.Seq, .ro 8 (t0.Session.Last.Heads.map THeader.c), .int .i64 t0.out.MTU, .int .i64 t0.out.Options, .bool t0.out.Init, .bool t0.out.More, .bool t0.out.Master, .int .u32 t0.out.Seq, .ro 8 (t0.out.Heads.map THeader.c), .bool t0.sent, .int .i64 t0.e]), (1, .box (TDesc.c d1))]) (next' := 2) rfl rfl rfl rfl rfl ?_
     iterate 2 refine GX.q (.ptr 0 0) ?_
     refine GX.q (.ptr 0 3) ?_
     refine GX.step0 (heap' := [(0, .box [.int .u32 t0.Session.Own, .int .u32 t0.Session.Peer, .int .i64 1, .bool true, .int .u32 t0.Session.Seq, .ro 8 (t0.Session.Left.map THeader.c), .ro 8 (t0.Session.Got.map THeader.c), .int .i64 t0.Session.Last.MTU, .int .i64 t0.Session.Last.Options, .bool t0.Session.Last.Init, .bool t0.Session.Last.More, .bool t0.Session.Last.Master, .int .u32 t0.Session.Last.Seq, .ro 8 (t0.Session.Last.Heads.map THeader.c), .int .i64 t0.out.MTU, .int .i64 t0.out.Options, .bool t0.out.Init, .bool t0.out.More, .bool t0.out.Master, .int .u32 t0.out.Seq, .ro 8 (t0.out.Heads.map THeader.c), .bool t0.sent, .int .i64 t0.e]), (1, .box (TDesc.c d1))]) (next' := 2) rfl rfl rfl rfl rfl ?_
     refine GX.done ?_
     refine WK.regx mixed ?_
     refine GX.m rfl ?_
     refine GX.q (.agg (TDesc.c d1)) ?_
     generalize hc92 : F46_exch_talk_lead (⟨(⟨t0.Session.Own, t0.Session.Peer, 1, true, t0.Session.Seq, t0.Session.Left, t0.Session.Got, t0.Session.Last⟩ : TSession), t0.out, t0.sent, t0.e⟩ : TTalk) d1 = c92 at hR
     rcases c92 with _ | c92
     ·try dsimp only at hR
      cases hR
     try dsimp only at hR
     try dsimp only at hR
     refine GX.callx (r' := .tup []) (heap' := [(0, .box (TTalk.c c92)), (1, .box (TDesc.c d1))]) (next' := 2) [0] [] rfl rfl rfl rfl rfl rfl (f46_ok (⟨(⟨t0.Session.Own, t0.Session.Peer, 1, true, t0.Session.Seq, t0.Session.Left, t0.Session.Got, t0.Session.Last⟩ : TSession), t0.out, t0.sent, t0.e⟩ : TTalk) d1 _ hc92) (.inl rfl) rfl rfl rfl ?_
     refine GX.done ?_
     refine WK.nil (QF.normal (hK3 _ ?_))
     refine WK.nil ?_
     obtain rfl := Option.some.inj hR
     exact RetQ.ret [0] [] (.inl rfl) rfl rfl rfl rfl rfl .refl rfl
  ·rw [hb2]; first | replace hR := cond_t hb2 hR | (try simp only [hb2, bb] at hR)
   iterate 8 refine RD.skip rfl rfl ?_
   refine RD.q (.bool false) ?_
   refine RD.m rfl ?_
   refine RD.done rfl ?_
   refine WK.blockK (fun _ hK7 => ?_)
   refine WK.seq ?_
   refine WK.drawn mixed ?_
   iterate 2 refine RD.m rfl ?_
   iterate 11 refine RD.skip rfl rfl ?_
   refine RD.q (.bool false) ?_
   refine RD.m rfl ?_
   refine RD.done rfl ?_
   refine WK.condF rfl ?_
   refine WK.seq ?_
   refine WK.drawn mixed ?_
   iterate 2 refine RD.m rfl ?_
   iterate 11 refine RD.skip rfl rfl ?_
   refine RD.q (.bool false) ?_
   refine RD.m rfl ?_
   refine RD.done rfl ?_
   refine WK.condF rfl ?_
   refine WK.skip ?_
   refine WK.nil (QF.normal (hK7 _ ?_))
   refine WK.nil ?_
   obtain rfl := Option.some.inj hR
   exact RetQ.ret [0] [] (.inl rfl) rfl rfl rfl rfl rfl .refl rfl
 ·rw [hb1]; first | replace hR := cond_t hb1 hR | (try simp only [hb1, bb] at hR)
  refine GX.q (.ptr 1 3) ?_
  iterate 2 refine GX.q (.bool d1.More) ?_
  refine GX.m rfl ?_
  rcases bool_two (d1.More) with hb8 | hb8
  ·rw [hb8]; first | replace hR := cond_f hb8 hR | (try simp only [hb8, bb] at hR)
   iterate 2 refine GX.skip rfl rfl ?_
   refine GX.q (.bool false) ?_
   refine GX.m rfl ?_
   iterate 4 refine GX.skip rfl rfl ?_
   refine GX.q (.bool false) ?_
   refine GX.m rfl ?_
   refine GX.done ?_
   refine WK.seq ?_
   refine WK.drawn mixed ?_
   refine RD.q (.ptr 1 2) ?_
   refine RD.pure (v' := .bool true) rfl rfl rfl rfl (congrArg PVal.bool hb1) ?_
   refine RD.q (.bool false) ?_
   refine RD.m rfl ?_
   iterate 3 refine RD.skip rfl rfl ?_
   refine RD.q (.bool false) ?_
   refine RD.m rfl ?_
   iterate 8 refine RD.skip rfl rfl ?_
   refine RD.q (.bool false) ?_
   refine RD.m rfl ?_
   refine RD.done rfl ?_
   refine WK.blockK (fun _ hK9 => ?_)
   refine WK.seq ?_
   refine WK.drawn mixed ?_
   iterate 2 refine RD.m rfl ?_
   iterate 11 refine RD.skip rfl rfl ?_
   refine RD.q (.bool false) ?_
   refine RD.m rfl ?_
   refine RD.done rfl ?_
   refine WK.condF rfl ?_
   refine WK.seq ?_
   refine WK.drawn mixed ?_
   iterate 2 refine RD.m rfl ?_
   iterate 11 refine RD.skip rfl rfl ?_
   refine RD.q (.bool false) ?_
   refine RD.m rfl ?_
   refine RD.done rfl ?_
   refine WK.condF rfl ?_
   refine WK.skip ?_
   refine WK.nil (QF.normal (hK9 _ ?_))
   refine WK.nil ?_
   obtain rfl := Option.some.inj hR
   exact RetQ.ret [0] [] (.inl rfl) rfl rfl rfl rfl rfl .refl rfl
  ·rw [hb8]; first | replace hR := cond_t hb8 hR | (try simp only [hb8, bb] at hR)
   refine GX.q (.ptr 1 4) ?_
   iterate 2 refine GX.q (.bool d1.Master) ?_
   refine GX.m rfl ?_
   rcases bool_two (d1.Master) with hb10 | hb10
   ·rw [hb10]; first | replace hR := cond_f hb10 hR | (try simp only [hb10, bb] at hR)
    iterate 4 refine GX.skip rfl rfl ?_
    refine GX.q (.bool false) ?_
    refine GX.m rfl ?_
    refine GX.done ?_
    refine WK.seq ?_
    refine WK.drawn mixed ?_
    refine RD.q (.ptr 1 2) ?_
    refine RD.pure (v' := .bool true) rfl rfl rfl rfl (congrArg PVal.bool hb1) ?_
    refine RD.q (.bool false) ?_
    refine RD.m rfl ?_
    iterate 3 refine RD.skip rfl rfl ?_
    refine RD.q (.bool false) ?_
    refine RD.m rfl ?_
    iterate 8 refine RD.skip rfl rfl ?_
    refine RD.q (.bool false) ?_
    refine RD.m rfl ?_
    refine RD.done rfl ?_
    refine WK.blockK (fun _ hK11 => ?_)
    refine WK.seq ?_
    refine WK.drawn mixed ?_
    iterate 2 refine RD.m rfl ?_
    iterate 11 refine RD.skip rfl rfl ?_
    refine RD.q (.bool false) ?_
    refine RD.m rfl ?_
    refine RD.done rfl ?_
    refine WK.condF rfl ?_
    refine WK.seq ?_
    refine WK.drawn mixed ?_
    iterate 2 refine RD.m rfl ?_
    iterate 11 refine RD.skip rfl rfl ?_
    refine RD.q (.bool false) ?_
    refine RD.m rfl ?_
    refine RD.done rfl ?_
    refine WK.condF rfl ?_
    refine WK.skip ?_
    refine WK.nil (QF.normal (hK11 _ ?_))
    refine WK.nil ?_
    obtain rfl := Option.some.inj hR
    exact RetQ.ret [0] [] (.inl rfl) rfl rfl rfl rfl rfl .refl rfl
   ·rw [hb10]; first | replace hR := cond_t hb10 hR | (try simp only [hb10, bb] at hR)
    refine GX.q (.ptr 1 6) ?_
    refine GX.q (.ro 8 (d1.Heads.map THeader.c)) ?_
    refine GX.pure (v' := .int .i64 (d1.Heads.length : Int)) rfl rfl rfl rfl (len_map _ _) ?_
    iterate 2 refine GX.q (.bool (decide ((d1.Heads.length : Int) = 0))) ?_
    refine GX.m rfl ?_
    refine GX.done ?_
    refine WK.seq ?_
    refine WK.drawn mixed ?_
    refine RD.q (.ptr 1 2) ?_
    refine RD.pure (v' := .bool true) rfl rfl rfl rfl (congrArg PVal.bool hb1) ?_
    refine RD.q (.bool false) ?_
    refine RD.m rfl ?_
    iterate 3 refine RD.skip rfl rfl ?_
    refine RD.q (.bool false) ?_
    refine RD.m rfl ?_
    iterate 8 refine RD.skip rfl rfl ?_
    refine RD.q (.bool false) ?_
    refine RD.m rfl ?_
    refine RD.done rfl ?_
    refine WK.blockK (fun _ hK12 => ?_)
    refine WK.seq ?_
    refine WK.drawn mixed ?_
    iterate 2 refine RD.m rfl ?_
    rcases bool_two (decide ((d1.Heads.length : Int) = 0)) with hb13 | hb13
    ·rw [hb13]; first | replace hR := cond_f hb13 hR | (try simp only [hb13, bb] at hR)
     iterate 11 refine RD.skip rfl rfl ?_
     refine RD.q (.bool false) ?_
     refine RD.m rfl ?_
     refine RD.done rfl ?_
     refine WK.condF rfl ?_
     refine WK.seq ?_
     refine WK.drawn mixed ?_
     iterate 2 refine RD.m rfl ?_
     iterate 11 refine RD.skip rfl rfl ?_
     refine RD.q (.bool false) ?_
     refine RD.m rfl ?_
     refine RD.done rfl ?_
     refine WK.condF rfl ?_
     refine WK.skip ?_
     refine WK.nil (QF.normal (hK12 _ ?_))
     refine WK.nil ?_
     obtain rfl := Option.some.inj hR
     exact RetQ.ret [0] [] (.inl rfl) rfl rfl rfl rfl rfl .refl rfl
    ·rw [hb13]; first | replace hR := cond_t hb13 hR | (try simp only [hb13, bb] at hR)
     refine RD.m rfl ?_
     iterate 2 refine RD.q (.ptr 0 0) ?_
     refine RD.q (.ptr 0 1) ?_
     refine RD.q (.int .u32 t0.Session.Peer) ?_
     refine RD.m rfl ?_
     iterate 3 refine RD.q (.ptr 0 0) ?_
     refine RD.q (.int .u32 t0.Session.Own) ?_
     iterate 2 refine RD.q (.bool (decide (t0.Session.Own < t0.Session.Peer))) ?_
     refine RD.m rfl ?_
     refine RD.done rfl ?_
     rcases bool_two (decide (t0.Session.Own < t0.Session.Peer)) with hb14 | hb14
     ·rw [hb14]; first | replace hR := cond_f hb14 hR | (try simp only [hb14, bb] at hR)
      refine WK.condF rfl ?_
      refine WK.seq ?_
      refine WK.drawn mixed ?_
      iterate 2 refine RD.m rfl ?_
      iterate 11 refine RD.skip rfl rfl ?_
      refine RD.q (.bool false) ?_
      refine RD.m rfl ?_
      refine RD.done rfl ?_
      refine WK.condF rfl ?_
      refine WK.skip ?_
      refine WK.nil (QF.normal (hK12 _ ?_))
      refine WK.nil ?_
      obtain rfl := Option.some.inj hR
      exact RetQ.ret [0] [] (.inl rfl) rfl rfl rfl rfl rfl .refl rfl
     ·rw [hb14]; first | replace hR := cond_t hb14 hR | (try simp only [hb14, bb] at hR)
      refine WK.condT rfl ?_
      refine WK.seq ?_
      refine WK.drawn mixed ?_
      iterate 2 refine RD.m rfl ?_
      refine RD.q (.ptr 1 5) ?_
      refine RD.q (.int .u32 d1.Seq) ?_
      iterate 2 refine RD.q (.ptr 0 0) ?_
      refine RD.q (.ptr 0 2) ?_
      refine RD.step0 (heap' := [(0, .box [.int .u32 t0.Session.Own, .int .u32 t0.Session.Peer, .int .i64 1, .bool t0.Session.Leads, .int .u32 t0.Session.Seq, .ro 8 (t0.Session.Left.map THeader.c), .ro 8 (t0.Session.Got.map THeader.c), .int .i64 t0.Session.Last.MTU, .int .i64 t0.Session.Last.Options, .bool t0.Session.Last.Init, .bool t0.Session.Last.More, .bool t0.Session.Last.Master, .int .u32 t0.Session.Last.Seq, .ro 8 (t0.Session.Last.Heads.map THeader.c), .int .i64 t0.out.MTU, .int .i64 t0.out.Options, .bool t0.out.Init, .bool t0.out.More, .bool t0.out.Master, .int .u32 t0.out.Seq, .ro 8 (t0.out.Heads.map THeader.c), .bool t0.sent, .int .i64 t0.e]), (1, .box (TDesc.c d1))]) (next' := 2) rfl rfl rfl rfl rfl ?_
      iterate 2 refine RD.q (.ptr 0 0) ?_
      refine RD.q (.ptr 0 4) ?_
      refine RD.step0 (heap' := [(0, .box [.int .u32 t0.Session.Own, .int .u32 t0.Session.Peer, .int .i64 1, .bool t0.Session.Leads, .int .u32 d1.Seq, .ro 8 (t0.Session.Left.map THeader.c), .ro 8 (t0.Session.Got.map THeader.c), .int .i64 t0.Session.Last.MTU, .int .i64 t0.Session.Last.Options, .bool t0.Session.Last.Init, .bool t0.Session.Last.More, .bool t0.Session.Last.Master, .int .u32 t0.Session.Last.Seq, .ro 8 (t0.Session.Last.Heads.map THeader.c), .int .i64 t0.out.MTU, .int .i64 t0.out.Options, .bool t0.out.Init, .bool t0.out.More, .bool t0.out.Master, .int .u32 t0.out.Seq, .ro 8 (t0.out.Heads.map THeader.c), .bool t0.sent, .int .i64 t0.e]), (1, .box (TDesc.c d1))]) (next' := 2) rfl rfl rfl rfl rfl ?_
      refine RD.done rfl ?_
      refine WK.regx mixed ?_
      refine GX.m rfl ?_
      generalize hc66 : F63_exch_talk_page (⟨(⟨t0.Session.Own, t0.Session.Peer, 1, t0.Session.Leads, d1.Seq, t0.Session.Left, t0.Session.Got, t0.Session.Last⟩ : TSession), t0.out, t0.sent, t0.e⟩ : TTalk) = c66 at hR
      rcases c66 with _ | c66
      ·try dsimp only at hR
       cases hR
      try dsimp only at hR
      try dsimp only at hR
      refine GX.callx (r' := .tup []) (heap' := [(0, .box (TTalk.c c66)), (1, .box (TDesc.c d1))]) (next' := 2) [0] [] rfl rfl rfl rfl rfl rfl (f63_ok (⟨(⟨t0.Session.Own, t0.Session.Peer, 1, t0.Session.Leads, d1.Seq, t0.Session.Left, t0.Session.Got, t0.Session.Last⟩ : TSession), t0.out, t0.sent, t0.e⟩ : TTalk) _ hc66) (.inl rfl) rfl rfl rfl ?_
      refine GX.done ?_
      refine WK.nil (QF.normal (hK12 _ ?_))
      refine WK.nil ?_
      obtain rfl := Option.some.inj hR
      exact RetQ.ret [0] [] (.inl rfl) rfl rfl rfl rfl rfl .refl rfl

theorem f45_ok (a0 : TDesc) (a1 : TTalk) (R : TTalk) (hR : F45_exch_talk_hears_1 a0 a1 = R) : FnOk Try.prog 45 [.agg (TDesc.c a0), .ptr 1 0] [(0, .box (TTalk.c a1)), (1, .box [.ptr 0 0])] 2 (.tup []) [(0, .box (TTalk.c R)), (1, .box [.ptr 0 0])] 2 := by
 refine FnOk.wk i45 rfl rfl ?_
 unfold F45_exch_talk_hears_1 at hR
 change WK _ _ _ [ac45] _ ⟨[(0, .agg (TDesc.c a0)), (1, .ptr 1 0)], [(0, .box (TTalk.c a1)), (1, .box [.ptr 0 0])], 2⟩
 unfold ac45
 refine WK.sr mixed ?_
 refine GX.step (v' := .ptr 2 0) (heap' := [(0, .box (TTalk.c a1)), (1, .box [.ptr 0 0]), (2, .box (TDesc.c a0))]) (next' := 3) rfl rfl rfl rfl rfl rfl rfl ?_
 refine GX.done ?_
 refine WK.regx mixed ?_
 iterate 2 refine GX.q (.ptr 0 0) ?_
 refine GX.q (.ptr 0 22) ?_
 refine GX.step0 (heap' := [(0, .box [.int .u32 a1.Session.Own, .int .u32 a1.Session.Peer, .int .i64 a1.Session.Phase, .bool a1.Session.Leads, .int .u32 a1.Session.Seq, .ro 8 (a1.Session.Left.map THeader.c), .ro 8 (a1.Session.Got.map THeader.c), .int .i64 a1.Session.Last.MTU, .int .i64 a1.Session.Last.Options, .bool a1.Session.Last.Init, .bool a1.Session.Last.More, .bool a1.Session.Last.Master, .int .u32 a1.Session.Last.Seq, .ro 8 (a1.Session.Last.Heads.map THeader.c), .int .i64 a1.out.MTU, .int .i64 a1.out.Options, .bool a1.out.Init, .bool a1.out.More, .bool a1.out.Master, .int .u32 a1.out.Seq, .ro 8 (a1.out.Heads.map THeader.c), .bool a1.sent, .int .i64 13]), (1, .box [.ptr 0 0]), (2, .box (TDesc.c a0))]) (next' := 3) rfl rfl rfl rfl rfl ?_
 refine GX.done ?_
 refine WK.nil ?_
 subst hR
 exact RetQ.ret [0, 1] [] (.inl rfl) rfl rfl rfl rfl rfl .refl rfl

theorem f47_ok (t0 : TTalk) (d1 : TDesc) (R : TTalk) (hR : F47_exch_talk_follow t0 d1 = some R) : FnOk Try.prog 47 [.ptr 0 0, .agg (TDesc.c d1)] [(0, .box (TTalk.c t0))] 1 (.tup []) [(0, .box (TTalk.c R))] 1 := by
 refine FnOk.wk i47 rfl rfl ?_
 unfold F47_exch_talk_follow at hR
 try dsimp only at hR
 change WK _ _ _ [ac47] _ ⟨[(0, .ptr 0 0), (1, .agg (TDesc.c d1))], [(0, .box (TTalk.c t0))], 1⟩
 unfold ac47
 refine WK.sr mixed ?_
 refine GX.step (v' := .ptr 1 0) (heap' := [(0, .box (TTalk.c t0)), (1, .box (TDesc.c d1))]) (next' := 2) rfl rfl rfl rfl rfl rfl rfl ?_
 refine GX.done ?_
 refine WK.seq ?_
 refine WK.blockK (fun _ hK1 => ?_)
 refine WK.seq ?_
 refine WK.drawn mixed ?_
 refine RD.q (.ptr 1 5) ?_
 refine RD.q (.int .u32 d1.Seq) ?_
 refine RD.m rfl ?_
 iterate 2 refine RD.q (.ptr 0 0) ?_
 refine RD.q (.ptr 0 4) ?_
 refine RD.q (.int .u32 t0.Session.Seq) ?_
 refine RD.q (.bool (decide (d1.Seq = t0.Session.Seq))) ?_
 refine RD.m rfl ?_
 refine RD.done rfl ?_
 rcases bool_two (decide (d1.Seq = t0.Session.Seq)) with hb2 | hb2
 ·rw [hb2]; first | replace hR := cond_f hb2 hR | (try simp only [hb2, bb] at hR)
  refine WK.condF rfl ?_
  refine WK.seq ?_
  refine WK.drawn mixed ?_
  refine RD.q (.ptr 1 5) ?_
  refine RD.q (.int .u32 d1.Seq) ?_
  refine RD.m rfl ?_
  iterate 2 refine RD.q (.ptr 0 0) ?_
  refine RD.q (.ptr 0 4) ?_
  refine RD.q (.int .u32 t0.Session.Seq) ?_
  refine RD.q (.int .u32 (IntKind.u32.wrap (t0.Session.Seq + 1))) ?_
  refine RD.q (.bool (!decide (d1.Seq = IntKind.u32.wrap (t0.Session.Seq + 1)))) ?_
  refine RD.m rfl ?_
  rcases bool_two (decide (d1.Seq = IntKind.u32.wrap (t0.Session.Seq + 1))) with hb3 | hb3
  ·rw [hb3]; first | replace hR := cond_f hb3 hR | (try simp only [hb3, bb] at hR)
   iterate 6 refine RD.skip rfl rfl ?_
   refine RD.q (.bool true) ?_
   refine RD.m rfl ?_
   refine RD.done rfl ?_
   refine WK.condT rfl ?_
   refine WK.sr mixed ?_
   refine GX.m rfl ?_
   refine GX.q (.ptr 0 0) ?_
   refine GX.q (.ptr 0 22) ?_
   refine GX.step0 (heap' := [(0, .box [.int .u32 t0.Session.Own, .int .u32 t0.Session.Peer, .int .i64 t0.Session.Phase, .bool t0.Session.Leads, .int .u32 t0.Session.Seq, .ro 8 (t0.Session.Left.map THeader.c), .ro 8 (t0.Session.Got.map THeader.c), .int .i64 t0.Session.Last.MTU, .int .i64 t0.Session.Last.Options, .bool t0.Session.Last.Init, .bool t0.Session.Last.More, .bool t0.Session.Last.Master, .int .u32 t0.Session.Last.Seq, .ro 8 (t0.Session.Last.Heads.map THeader.c), .int .i64 t0.out.MTU, .int .i64 t0.out.Options, .bool t0.out.Init, .bool t0.out.More, .bool t0.out.Master, .int .u32 t0.out.Seq, .ro 8 (t0.out.Heads.map THeader.c), .bool t0.sent, .int .i64 13]), (1, .box (TDesc.c d1))]) (next' := 2) rfl rfl rfl rfl rfl ?_
   refine GX.done ?_
   refine WK.ret ?_
   refine QF.ret ?_
   obtain rfl := Option.some.inj hR
   exact RetQ.ret [0] [] (.inr rfl) rfl rfl rfl rfl rfl .refl rfl
  ·rw [hb3]; first | replace hR := cond_t hb3 hR | (try simp only [hb3, bb] at hR)
   refine RD.m rfl ?_
   iterate 2 refine RD.q (.ptr 0 0) ?_
   refine RD.q (.ptr 0 2) ?_
   refine RD.q (.int .i64 t0.Session.Phase) ?_
   iterate 2 refine RD.q (.bool (decide (t0.Session.Phase = 2))) ?_
   refine RD.m rfl ?_
   refine RD.done rfl ?_
   rcases bool_two (decide (t0.Session.Phase = 2)) with hb4 | hb4
   ·rw [hb4]; first | replace hR := cond_f hb4 hR | (try simp only [hb4, bb] at hR)
    refine WK.condF rfl ?_
    refine WK.skip ?_
    refine WK.nil (QF.normal (hK1 _ ?_))
    refine WK.sr mixed ?_
    refine GX.m rfl ?_
    refine GX.q (.agg (TDesc.c d1)) ?_
    generalize hc43 : F64_exch_talk_take t0 d1 = c43 at hR
    rcases c43 with _ | c43
    ·try dsimp only at hR
     cases hR
    try dsimp only at hR
    try dsimp only at hR
    refine GX.callx (r' := .tup []) (heap' := [(0, .box (TTalk.c c43)), (1, .box (TDesc.c d1))]) (next' := 2) [0] [] rfl rfl rfl rfl rfl rfl (f64_ok t0 d1 _ hc43) (.inl rfl) rfl rfl rfl ?_
    refine GX.done ?_
    refine WK.sr mixed ?_
    refine GX.m rfl ?_
    refine GX.q (.ptr 1 5) ?_
    refine GX.q (.int .u32 d1.Seq) ?_
    iterate 2 refine GX.q (.ptr 0 0) ?_
    refine GX.q (.ptr 0 4) ?_
    refine GX.step0 (heap' := [(0, .box [.int .u32 c43.Session.Own, .int .u32 c43.Session.Peer, .int .i64 c43.Session.Phase, .bool c43.Session.Leads, .int .u32 d1.Seq, .ro 8 (c43.Session.Left.map THeader.c), .ro 8 (c43.Session.Got.map THeader.c), .int .i64 c43.Session.Last.MTU, .int .i64 c43.Session.Last.Options, .bool c43.Session.Last.Init, .bool c43.Session.Last.More, .bool c43.Session.Last.Master, .int .u32 c43.Session.Last.Seq, .ro 8 (c43.Session.Last.Heads.map THeader.c), .int .i64 c43.out.MTU, .int .i64 c43.out.Options, .bool c43.out.Init, .bool c43.out.More, .bool c43.out.Master, .int .u32 c43.out.Seq, .ro 8 (c43.out.Heads.map THeader.c), .bool c43.sent, .int .i64 c43.e]), (1, .box (TDesc.c d1))]) (next' := 2) rfl rfl rfl rfl rfl ?_
    refine GX.done ?_
    refine WK.sr mixed ?_
    refine GX.m rfl ?_
    generalize hc51 : F63_exch_talk_page (⟨(⟨c43.Session.Own, c43.Session.Peer, c43.Session.Phase, c43.Session.Leads, d1.Seq, c43.Session.Left, c43.Session.Got, c43.Session.Last⟩ : TSession), c43.out, c43.sent, c43.e⟩ : TTalk) = c51 at hR
    rcases c51 with _ | c51
    ·try dsimp only at hR
     cases hR
    try dsimp only at hR
    try dsimp only at hR
    refine GX.callx (r' := .tup []) (heap' := [(0, .box (TTalk.c c51)), (1, .box (TDesc.c d1))]) (next' := 2) [0] [] rfl rfl rfl rfl rfl rfl (f63_ok (⟨(⟨c43.Session.Own, c43.Session.Peer, c43.Session.Phase, c43.Session.Leads, d1.Seq, c43.Session.Left, c43.Session.Got, c43.Session.Last⟩ : TSession), c43.out, c43.sent, c43.e⟩ : TTalk) _ hc51) (.inl rfl) rfl rfl rfl ?_
    refine GX.done ?_
    refine WK.sr mixed ?_
    refine GX.q (.ptr 1 3) ?_
    refine GX.q (.bool d1.More) ?_
    refine GX.q (.bool (!d1.More)) ?_
    refine GX.m rfl ?_
    rcases bool_two (d1.More) with hb7 | hb7
    ·rw [hb7]; first | replace hR := cond_f hb7 hR | (try simp only [hb7, bb] at hR)
     refine GX.m rfl ?_
     refine GX.q (.ptr 0 0) ?_
     refine GX.q (.ptr 0 14) ?_
     refine GX.q (.ptr 0 17) ?_
     refine GX.q (.bool c51.out.More) ?_
     iterate 2 refine GX.q (.bool (!c51.out.More)) ?_
     refine GX.done ?_
     rcases bool_two (c51.out.More) with hb8 | hb8
     ·rw [hb8]; first | replace hR := cond_f hb8 hR | (try simp only [hb8, bb] at hR)
      refine WK.condT rfl ?_
      refine WK.regx mixed ?_
      refine GX.m rfl ?_
      iterate 2 refine GX.q (.ptr 0 0) ?_
      refine GX.q (.ptr 0 2) ?_
      refine GX.step0 (heap' := [(0, .box [.int .u32 c51.Session.Own, .int .u32 c51.Session.Peer, .int .i64 2, .bool c51.Session.Leads, .int .u32 c51.Session.Seq, .ro 8 (c51.Session.Left.map THeader.c), .ro 8 (c51.Session.Got.map THeader.c), .int .i64 c51.Session.Last.MTU, .int .i64 c51.Session.Last.Options, .bool c51.Session.Last.Init, .bool c51.Session.Last.More, .bool c51.Session.Last.Master, .int .u32 c51.Session.Last.Seq, .ro 8 (c51.Session.Last.Heads.map THeader.c), .int .i64 c51.out.MTU, .int .i64 c51.out.Options, .bool c51.out.Init, .bool c51.out.More, .bool c51.out.Master, .int .u32 c51.out.Seq, .ro 8 (c51.out.Heads.map THeader.c), .bool c51.sent, .int .i64 c51.e]), (1, .box (TDesc.c d1))]) (next' := 2) rfl rfl rfl rfl rfl ?_
      refine GX.done ?_
      refine WK.nil ?_
      obtain rfl := Option.some.inj hR
      exact RetQ.ret [0] [] (.inl rfl) rfl rfl rfl rfl rfl .refl rfl
     ·rw [hb8]; first | replace hR := cond_t hb8 hR | (try simp only [hb8, bb] at hR)
      refine WK.condF rfl ?_
      refine WK.skip ?_
      refine WK.nil ?_
      obtain rfl := Option.some.inj hR
      exact RetQ.ret [0] [] (.inl rfl) rfl rfl rfl rfl rfl .refl rfl
    ·rw [hb7]; first | replace hR := cond_t hb7 hR | (try simp only [hb7, bb] at hR)
     iterate 6 refine GX.skip rfl rfl ?_
     refine GX.q (.bool false) ?_
     refine GX.done ?_
     refine WK.condF rfl ?_
     refine WK.skip ?_
     refine WK.nil ?_
     obtain rfl := Option.some.inj hR
     exact RetQ.ret [0] [] (.inl rfl) rfl rfl rfl rfl rfl .refl rfl
   ·rw [hb4]; first | replace hR := cond_t hb4 hR | (try simp only [hb4, bb] at hR)
    refine WK.condT rfl ?_
    refine WK.sr mixed ?_
    refine GX.m rfl ?_
    refine GX.q (.ptr 0 0) ?_
    refine GX.q (.ptr 0 22) ?_
    refine GX.step0 (heap' := [(0, .box [.int .u32 t0.Session.Own, .int .u32 t0.Session.Peer, .int .i64 t0.Session.Phase, .bool t0.Session.Leads, .int .u32 t0.Session.Seq, .ro 8 (t0.Session.Left.map THeader.c), .ro 8 (t0.Session.Got.map THeader.c), .int .i64 t0.Session.Last.MTU, .int .i64 t0.Session.Last.Options, .bool t0.Session.Last.Init, .bool t0.Session.Last.More, .bool t0.Session.Last.Master, .int .u32 t0.Session.Last.Seq, .ro 8 (t0.Session.Last.Heads.map THeader.c), .int .i64 t0.out.MTU, .int .i64 t0.out.Options, .bool t0.out.Init, .bool t0.out.More, .bool t0.out.Master, .int .u32 t0.out.Seq, .ro 8 (t0.out.Heads.map THeader.c), .bool t0.sent, .int .i64 13]), (1, .box (TDesc.c d1))]) (next' := 2) rfl rfl rfl rfl rfl ?_
    refine GX.done ?_
    refine WK.ret ?_
    refine QF.ret ?_
    obtain rfl := Option.some.inj hR
    exact RetQ.ret [0] [] (.inr rfl) rfl rfl rfl rfl rfl .refl rfl
 ·rw [hb2]; first | replace hR := cond_t hb2 hR | (try simp only [hb2, bb] at hR)
  refine WK.condT rfl ?_
  refine WK.sr mixed ?_
  iterate 2 refine GX.m rfl ?_
  iterate 2 refine GX.q (.ptr 0 0) ?_
  refine GX.q (.ptr 0 7) ?_
  refine GX.q (.agg [.int .i64 t0.Session.Last.MTU, .int .i64 t0.Session.Last.Options, .bool t0.Session.Last.Init, .bool t0.Session.Last.More, .bool t0.Session.Last.Master, .int .u32 t0.Session.Last.Seq, .ro 8 (t0.Session.Last.Heads.map THeader.c)]) ?_
  generalize hc19 : F65_exch_talk_send t0 t0.Session.Last = c19 at hR
  try dsimp only at hR
  refine GX.callx (r' := .tup []) (heap' := [(0, .box (TTalk.c c19)), (1, .box (TDesc.c d1))]) (next' := 2) [0] [] rfl rfl rfl rfl rfl rfl (f65_ok t0 t0.Session.Last _ hc19) (.inl rfl) rfl rfl rfl ?_
  refine GX.done ?_
  refine WK.ret ?_
  refine QF.ret ?_
  obtain rfl := Option.some.inj hR
  exact RetQ.ret [0] [] (.inr rfl) rfl rfl rfl rfl rfl .refl rfl

theorem f28_ok (t0 : TTalk) (d1 : TDesc) (R : Lf4 × TTalk) (hR : F28_exch_talk_hears t0 d1 = some R) : FnOk Try.prog 28 [.ptr 0 0, .agg (TDesc.c d1)] [(0, .box (TTalk.c t0))] 1 (fv28 R.1) [(0, .box (TTalk.c R.2)), (1, .box [.ptr 0 0])] 2 := by
 refine FnOk.wk i28 rfl rfl ?_
 unfold F28_exch_talk_hears at hR
 try dsimp only at hR
 change WK _ _ _ [ac28] _ ⟨[(0, .ptr 0 0), (1, .agg (TDesc.c d1))], [(0, .box (TTalk.c t0))], 1⟩
 unfold ac28
 refine WK.sr mixed ?_
 refine GX.step (v' := .ptr 1 0) (heap' := [(0, .box (TTalk.c t0)), (1, .box [.ptr 0 0])]) (next' := 2) rfl rfl rfl rfl rfl rfl rfl ?_
 refine GX.step (v' := .ptr 2 0) (heap' := [(0, .box (TTalk.c t0)), (1, .box [.ptr 0 0]), (2, .box (TDesc.c d1))]) (next' := 3) rfl rfl rfl rfl rfl rfl rfl ?_
 refine GX.m rfl ?_
 refine GX.done ?_
 refine WK.seq ?_
 refine WK.blockK (fun _ hK1 => ?_)
 refine WK.sr mixed ?_
 iterate 3 refine GX.q (.ptr 0 0) ?_
 refine GX.q (.ptr 0 2) ?_
 refine GX.q (.int .i64 t0.Session.Phase) ?_
 refine GX.q (.bool (decide (t0.Session.Phase = 0))) ?_
 refine GX.m rfl ?_
 refine GX.done ?_
 rcases bool_two (decide (t0.Session.Phase = 0)) with hb2 | hb2
 ·rw [hb2]; first | replace hR := cond_f hb2 hR | (try simp only [hb2, bb] at hR)
  refine WK.condF rfl ?_
  refine WK.seq ?_
  refine WK.drawn mixed ?_
  refine RD.q (.ptr 2 2) ?_
  refine RD.q (.bool d1.Init) ?_
  refine RD.m rfl ?_
  rcases bool_two (d1.Init) with hb3 | hb3
  ·rw [hb3]; first | replace hR := cond_f hb3 hR | (try simp only [hb3, bb] at hR)
   refine RD.q (.ptr 2 4) ?_
   refine RD.q (.bool d1.Master) ?_
   iterate 3 refine RD.q (.ptr 0 0) ?_
   refine RD.q (.ptr 0 3) ?_
   refine RD.q (.bool t0.Session.Leads) ?_
   iterate 2 refine RD.q (.bool (d1.Master == t0.Session.Leads)) ?_
   refine RD.m rfl ?_
   refine RD.done rfl ?_
   rcases bool_two ((d1.Master == t0.Session.Leads)) with hb4 | hb4
   ·rw [hb4]; try simp only [hb4, bb] at hR
    refine WK.condF rfl ?_
    refine WK.sr mixed ?_
    iterate 3 refine GX.q (.ptr 0 0) ?_
    refine GX.q (.ptr 0 3) ?_
    refine GX.q (.bool t0.Session.Leads) ?_
    refine GX.m rfl ?_
    refine GX.done ?_
    rcases bool_two (t0.Session.Leads) with hb5 | hb5
    ·rw [hb5]; first | replace hR := cond_f hb5 hR | (try simp only [hb5, bb] at hR)
     refine WK.condF rfl ?_
     refine WK.skip ?_
     refine WK.nil (QF.normal (hK1 _ ?_))
     refine WK.sr mixed ?_
     refine GX.q (.ptr 0 0) ?_
     refine GX.q (.fn 47 [.ptr 0 0] []) ?_
     refine GX.m rfl ?_
     refine GX.done ?_
     refine WK.ret ?_
     obtain rfl := Option.some.inj hR
     exact RetQ.ret [0, 1] [] (.inr rfl) rfl rfl rfl rfl rfl .refl rfl
    ·rw [hb5]; first | replace hR := cond_t hb5 hR | (try simp only [hb5, bb] at hR)
     refine WK.condT rfl ?_
     refine WK.sr mixed ?_
     refine GX.q (.ptr 0 0) ?_
     refine GX.q (.fn 46 [.ptr 0 0] []) ?_
     refine GX.m rfl ?_
     refine GX.done ?_
     refine WK.ret ?_
     refine QF.ret ?_
     obtain rfl := Option.some.inj hR
     exact RetQ.ret [0, 1] [] (.inr rfl) rfl rfl rfl rfl rfl .refl rfl
   ·rw [hb4]; try simp only [hb4, bb] at hR
    refine WK.condT rfl ?_
    refine WK.sr mixed ?_
    refine GX.q (.fn 45 [] [.ptr 1 0]) ?_
    refine GX.m rfl ?_
    refine GX.done ?_
    refine WK.ret ?_
    refine QF.ret ?_
    obtain rfl := Option.some.inj hR
    exact RetQ.ret [0, 1] [] (.inr rfl) rfl rfl rfl rfl rfl .refl rfl
  ·rw [hb3]; first | replace hR := cond_t hb3 hR | (try simp only [hb3, bb] at hR)
   iterate 8 refine RD.skip rfl rfl ?_
   refine RD.q (.bool true) ?_
   refine RD.m rfl ?_
   refine RD.done rfl ?_
   refine WK.condT rfl ?_
   refine WK.sr mixed ?_
   refine GX.q (.fn 45 [] [.ptr 1 0]) ?_
   refine GX.m rfl ?_
   refine GX.done ?_
   refine WK.ret ?_
   refine QF.ret ?_
   obtain rfl := Option.some.inj hR
   exact RetQ.ret [0, 1] [] (.inr rfl) rfl rfl rfl rfl rfl .refl rfl
 ·rw [hb2]; first | replace hR := cond_t hb2 hR | (try simp only [hb2, bb] at hR)
  refine WK.condT rfl ?_
  refine WK.sr mixed ?_
  refine GX.q (.ptr 0 0) ?_
  refine GX.q (.fn 44 [.ptr 0 0] []) ?_
  refine GX.m rfl ?_
  refine GX.done ?_
  refine WK.ret ?_
  refine QF.ret ?_
  obtain rfl := Option.some.inj hR
  exact RetQ.ret [0, 1] [] (.inr rfl) rfl rfl rfl rfl rfl .refl rfl

theorem f15_ok (s0 : TSession) (d1 : TDesc) (R : TSession × TDesc × Bool × Int) (hR : F15_exch_Hear s0 d1 = some R) : FnOk Try.prog 15 [.agg (TSession.c s0), .agg (TDesc.c d1)] [] 0 (.tup [.agg (TSession.c R.1), .agg (TDesc.c R.2.1), .bool R.2.2.1, .int .i64 R.2.2.2]) [] 0 := by
 refine FnOk.wk i15 rfl rfl ?_
 unfold F15_exch_Hear at hR
 try dsimp only at hR
 change WK _ _ _ [ac15] _ ⟨[(0, .agg (TSession.c s0)), (1, .agg (TDesc.c d1))], [], 0⟩
 unfold ac15
 refine WK.sr mixed ?_
 refine GX.step (v' := .ptr 0 0) (heap' := [(0, .box (TSession.c s0))]) (next' := 1) rfl rfl rfl rfl rfl rfl rfl ?_
 refine GX.step (v' := .ptr 1 0) (heap' := [(0, .box (TSession.c s0)), (1, .box (TDesc.c d1))]) (next' := 2) rfl rfl rfl rfl rfl rfl rfl ?_
 refine GX.step (v' := .ptr 2 0) (heap' := [(0, .box (TSession.c s0)), (1, .box (TDesc.c d1)), (2, .box [.int .u32 0, .int .u32 0, .int .i64 0, .bool false, .int .u32 0, .nils, .nils, .int .i64 0, .int .i64 0, .bool false, .bool false, .bool false, .int .u32 0, .nils])]) (next' := 3) rfl rfl rfl rfl rfl rfl rfl ?_
 refine GX.step (v' := .ptr 3 0) (heap' := [(0, .box (TSession.c s0)), (1, .box (TDesc.c d1)), (2, .box [.int .u32 0, .int .u32 0, .int .i64 0, .bool false, .int .u32 0, .nils, .nils, .int .i64 0, .int .i64 0, .bool false, .bool false, .bool false, .int .u32 0, .nils]), (3, .box [.int .i64 0, .int .i64 0, .bool false, .bool false, .bool false, .int .u32 0, .nils])]) (next' := 4) rfl rfl rfl rfl rfl rfl rfl ?_
 iterate 2 refine GX.m rfl ?_
 refine GX.done ?_
 refine WK.sr mixed ?_
 refine GX.q (.agg (TSession.c s0)) ?_
 refine GX.q (.agg [.int .u32 s0.Own, .int .u32 s0.Peer, .int .i64 s0.Phase, .bool s0.Leads, .int .u32 s0.Seq, .ro 8 (s0.Left.map THeader.c), .ro 8 (s0.Got.map THeader.c), .int .i64 s0.Last.MTU, .int .i64 s0.Last.Options, .bool s0.Last.Init, .bool s0.Last.More, .bool s0.Last.Master, .int .u32 s0.Last.Seq, .ro 8 (s0.Last.Heads.map THeader.c), .int .i64 0, .int .i64 0, .bool false, .bool false, .bool false, .int .u32 0, .nils, .bool false, .int .i64 0]) ?_
 refine GX.step (v' := .ptr 4 0) (heap' := [(0, .box (TSession.c s0)), (1, .box (TDesc.c d1)), (2, .box [.int .u32 0, .int .u32 0, .int .i64 0, .bool false, .int .u32 0, .nils, .nils, .int .i64 0, .int .i64 0, .bool false, .bool false, .bool false, .int .u32 0, .nils]), (3, .box [.int .i64 0, .int .i64 0, .bool false, .bool false, .bool false, .int .u32 0, .nils]), (4, .box [.int .u32 s0.Own, .int .u32 s0.Peer, .int .i64 s0.Phase, .bool s0.Leads, .int .u32 s0.Seq, .ro 8 (s0.Left.map THeader.c), .ro 8 (s0.Got.map THeader.c), .int .i64 s0.Last.MTU, .int .i64 s0.Last.Options, .bool s0.Last.Init, .bool s0.Last.More, .bool s0.Last.Master, .int .u32 s0.Last.Seq, .ro 8 (s0.Last.Heads.map THeader.c), .int .i64 0, .int .i64 0, .bool false, .bool false, .bool false, .int .u32 0, .nils, .bool false, .int .i64 0])]) (next' := 5) rfl rfl rfl rfl rfl rfl rfl ?_
 refine GX.m rfl ?_
 refine GX.done ?_
 refine WK.seq ?_
 refine WK.weakB (id := 4) (cs' := [.int .u32 s0.Own, .int .u32 s0.Peer, .int .i64 s0.Phase, .bool s0.Leads, .int .u32 s0.Seq, .ro 8 (s0.Left.map THeader.c), .ro 8 (s0.Got.map THeader.c), .int .i64 s0.Last.MTU, .int .i64 s0.Last.Options, .bool s0.Last.Init, .bool s0.Last.More, .bool s0.Last.Master, .int .u32 s0.Last.Seq, .ro 8 (s0.Last.Heads.map THeader.c), .int .i64 0, .int .i64 0, .bool false, .bool false, .bool false, .int .u32 0, .ro 8 (([] : List THeader).map THeader.c), .bool false, .int .i64 0]) (heap' := [(0, .box (TSession.c s0)), (1, .box (TDesc.c d1)), (2, .box [.int .u32 0, .int .u32 0, .int .i64 0, .bool false, .int .u32 0, .nils, .nils, .int .i64 0, .int .i64 0, .bool false, .bool false, .bool false, .int .u32 0, .nils]), (3, .box [.int .i64 0, .int .i64 0, .bool false, .bool false, .bool false, .int .u32 0, .nils]), (4, .box [.int .u32 s0.Own, .int .u32 s0.Peer, .int .i64 s0.Phase, .bool s0.Leads, .int .u32 s0.Seq, .ro 8 (s0.Left.map THeader.c), .ro 8 (s0.Got.map THeader.c), .int .i64 s0.Last.MTU, .int .i64 s0.Last.Options, .bool s0.Last.Init, .bool s0.Last.More, .bool s0.Last.Master, .int .u32 s0.Last.Seq, .ro 8 (s0.Last.Heads.map THeader.c), .int .i64 0, .int .i64 0, .bool false, .bool false, .bool false, .int .u32 0, .ro 8 (([] : List THeader).map THeader.c), .bool false, .int .i64 0])]) rfl (.cons .refl (.cons .refl (.cons .refl (.cons .refl (.cons .refl (.cons .refl (.cons .refl (.cons .refl (.cons .refl (.cons .refl (.cons .refl (.cons .refl (.cons .refl (.cons .refl (.cons .refl (.cons .refl (.cons .refl (.cons .refl (.cons .refl (.cons .refl (.cons .nil .refl))))))))))))))))))))) (by simp) rfl ?_
 refine WK.drawn mixed ?_
 refine RD.m rfl ?_
 refine RD.q (.agg (TDesc.c d1)) ?_
 generalize hc14 : F28_exch_talk_hears (⟨s0, (⟨0, 0, false, false, false, 0, ([] : List THeader)⟩ : TDesc), false, 0⟩ : TTalk) d1 = c14 at hR
 rcases c14 with _ | c14
 ·try dsimp only at hR
  cases hR
 try dsimp only at hR
 obtain ⟨c14a, c14b⟩ := c14; try dsimp only at hR
 rcases c14a with _ | _ | _ | _
 ·try dsimp only at hR
  refine RD.callx (r' := .fn 47 [.ptr 4 0] []) (heap' := [(0, .box (TSession.c s0)), (1, .box (TDesc.c d1)), (2, .box [.int .u32 0, .int .u32 0, .int .i64 0, .bool false, .int .u32 0, .nils, .nils, .int .i64 0, .int .i64 0, .bool false, .bool false, .bool false, .int .u32 0, .nils]), (3, .box [.int .i64 0, .int .i64 0, .bool false, .bool false, .bool false, .int .u32 0, .nils]), (4, .box (TTalk.c c14b)), (5, .box [.ptr 4 0])]) (next' := 6) [4] [] rfl rfl rfl rfl rfl rfl (f28_ok (⟨s0, (⟨0, 0, false, false, false, 0, ([] : List THeader)⟩ : TDesc), false, 0⟩ : TTalk) d1 _ hc14) (.inl rfl) rfl rfl rfl ?_
  refine RD.q (.agg (TDesc.c d1)) ?_
  generalize hc16 : F47_exch_talk_follow c14b d1 = c16 at hR
  rcases c16 with _ | c16
  ·try dsimp only at hR
   cases hR
  try dsimp only at hR
  try dsimp only at hR
  refine RD.callvx (r' := .tup []) (heap' := [(0, .box (TSession.c s0)), (1, .box (TDesc.c d1)), (2, .box [.int .u32 0, .int .u32 0, .int .i64 0, .bool false, .int .u32 0, .nils, .nils, .int .i64 0, .int .i64 0, .bool false, .bool false, .bool false, .int .u32 0, .nils]), (3, .box [.int .i64 0, .int .i64 0, .bool false, .bool false, .bool false, .int .u32 0, .nils]), (4, .box (TTalk.c c16)), (5, .box [.ptr 4 0])]) (next' := 6) [4] [] rfl rfl rfl rfl rfl rfl (f47_ok c14b d1 _ hc16) (.inl rfl) rfl rfl rfl ?_
  refine RD.done rfl ?_
  refine WK.seq ?_
  refine WK.sr mixed ?_
  refine GX.m rfl ?_
  refine GX.q (.ptr 4 0) ?_
  refine GX.q (.ptr 4 22) ?_
  refine GX.q (.int .i64 c16.e) ?_
  refine GX.q (.bool (!decide (c16.e = 0))) ?_
  refine GX.done ?_
  rcases bool_two (decide (c16.e = 0)) with hb3 | hb3
  ·rw [hb3]; first | replace hR := cond_f hb3 hR | (try simp only [hb3, bb] at hR)
   refine WK.condT rfl ?_
   refine WK.seq ?_
   refine WK.drawn mixed ?_
   refine RD.q (.agg (TSession.c s0)) ?_
   refine RD.q (.agg [.int .i64 0, .int .i64 0, .bool false, .bool false, .bool false, .int .u32 0, .nils]) ?_
   refine RD.m rfl ?_
   refine RD.q (.ptr 4 0) ?_
   refine RD.q (.ptr 4 22) ?_
   refine RD.q (.int .i64 c16.e) ?_
   iterate 2 refine RD.step0 (heap' := [(0, .box (TSession.c s0)), (1, .box (TDesc.c d1)), (2, .box (TSession.c s0)), (3, .box [.int .i64 0, .int .i64 0, .bool false, .bool false, .bool false, .int .u32 0, .nils]), (4, .box (TTalk.c c16)), (5, .box [.ptr 4 0])]) (next' := 6) rfl rfl rfl rfl rfl ?_
   iterate 2 refine RD.m rfl ?_
   refine RD.done rfl ?_
   refine WK.ret ?_
   obtain rfl := Option.some.inj hR
   exact RetQ.frw [] (.inr rfl) rfl rfl rfl (.tup (.cons .refl (.cons (.agg (.cons .refl (.cons .refl (.cons .refl (.cons .refl (.cons .refl (.cons .refl (.cons .nil .refl)))))))) .refl)))
  ·rw [hb3]; first | replace hR := cond_t hb3 hR | (try simp only [hb3, bb] at hR)
   refine WK.condF rfl ?_
   refine WK.skip ?_
   refine WK.seq ?_
   refine WK.drawn mixed ?_
   refine RD.m rfl ?_
   iterate 2 refine RD.q (.ptr 4 0) ?_
   refine RD.q (.agg [.int .u32 c16.Session.Own, .int .u32 c16.Session.Peer, .int .i64 c16.Session.Phase, .bool c16.Session.Leads, .int .u32 c16.Session.Seq, .ro 8 (c16.Session.Left.map THeader.c), .ro 8 (c16.Session.Got.map THeader.c), .int .i64 c16.Session.Last.MTU, .int .i64 c16.Session.Last.Options, .bool c16.Session.Last.Init, .bool c16.Session.Last.More, .bool c16.Session.Last.Master, .int .u32 c16.Session.Last.Seq, .ro 8 (c16.Session.Last.Heads.map THeader.c)]) ?_
   refine RD.m rfl ?_
   refine RD.q (.ptr 4 0) ?_
   refine RD.q (.ptr 4 14) ?_
   refine RD.q (.agg [.int .i64 c16.out.MTU, .int .i64 c16.out.Options, .bool c16.out.Init, .bool c16.out.More, .bool c16.out.Master, .int .u32 c16.out.Seq, .ro 8 (c16.out.Heads.map THeader.c)]) ?_
   refine RD.m rfl ?_
   refine RD.q (.ptr 4 0) ?_
   refine RD.q (.ptr 4 21) ?_
   refine RD.q (.bool c16.sent) ?_
   refine RD.step0 (heap' := [(0, .box (TSession.c s0)), (1, .box (TDesc.c d1)), (2, .box (TSession.c c16.Session)), (3, .box [.int .i64 0, .int .i64 0, .bool false, .bool false, .bool false, .int .u32 0, .nils]), (4, .box (TTalk.c c16)), (5, .box [.ptr 4 0])]) (next' := 6) rfl rfl rfl rfl rfl ?_
   refine RD.step0 (heap' := [(0, .box (TSession.c s0)), (1, .box (TDesc.c d1)), (2, .box (TSession.c c16.Session)), (3, .box (TDesc.c c16.out)), (4, .box (TTalk.c c16)), (5, .box [.ptr 4 0])]) (next' := 6) rfl rfl rfl rfl rfl ?_
   iterate 2 refine RD.m rfl ?_
   refine RD.done rfl ?_
   refine WK.ret ?_
   obtain rfl := Option.some.inj hR
   exact RetQ.fr [] (.inr rfl) rfl rfl rfl rfl
 ·try dsimp only at hR
  refine RD.callx (r' := .fn 46 [.ptr 4 0] []) (heap' := [(0, .box (TSession.c s0)), (1, .box (TDesc.c d1)), (2, .box [.int .u32 0, .int .u32 0, .int .i64 0, .bool false, .int .u32 0, .nils, .nils, .int .i64 0, .int .i64 0, .bool false, .bool false, .bool false, .int .u32 0, .nils]), (3, .box [.int .i64 0, .int .i64 0, .bool false, .bool false, .bool false, .int .u32 0, .nils]), (4, .box (TTalk.c c14b)), (5, .box [.ptr 4 0])]) (next' := 6) [4] [] rfl rfl rfl rfl rfl rfl (f28_ok (⟨s0, (⟨0, 0, false, false, false, 0, ([] : List THeader)⟩ : TDesc), false, 0⟩ : TTalk) d1 _ hc14) (.inl rfl) rfl rfl rfl ?_
  refine RD.q (.agg (TDesc.c d1)) ?_
  generalize hc16 : F46_exch_talk_lead c14b d1 = c16 at hR
  rcases c16 with _ | c16
  ·try dsimp only at hR
   cases hR
  try dsimp only at hR
  try dsimp only at hR
  refine RD.callvx (r' := .tup []) (heap' := [(0, .box (TSession.c s0)), (1, .box (TDesc.c d1)), (2, .box [.int .u32 0, .int .u32 0, .int .i64 0, .bool false, .int .u32 0, .nils, .nils, .int .i64 0, .int .i64 0, .bool false, .bool false, .bool false, .int .u32 0, .nils]), (3, .box [.int .i64 0, .int .i64 0, .bool false, .bool false, .bool false, .int .u32 0, .nils]), (4, .box (TTalk.c c16)), (5, .box [.ptr 4 0])]) (next' := 6) [4] [] rfl rfl rfl rfl rfl rfl (f46_ok c14b d1 _ hc16) (.inl rfl) rfl rfl rfl ?_
  refine RD.done rfl ?_
  refine WK.seq ?_
  refine WK.sr mixed ?_
  refine GX.m rfl ?_
  refine GX.q (.ptr 4 0) ?_
  refine GX.q (.ptr 4 22) ?_
  refine GX.q (.int .i64 c16.e) ?_
  refine GX.q (.bool (!decide (c16.e = 0))) ?_
  refine GX.done ?_
  rcases bool_two (decide (c16.e = 0)) with hb5 | hb5
  ·rw [hb5]; first | replace hR := cond_f hb5 hR | (try simp only [hb5, bb] at hR)
   refine WK.condT rfl ?_
   refine WK.seq ?_
   refine WK.drawn mixed ?_
   refine RD.q (.agg (TSession.c s0)) ?_
   refine RD.q (.agg [.int .i64 0, .int .i64 0, .bool false, .bool false, .bool false, .int .u32 0, .nils]) ?_
   refine RD.m rfl ?_
   refine RD.q (.ptr 4 0) ?_
   refine RD.q (.ptr 4 22) ?_
   refine RD.q (.int .i64 c16.e) ?_
   iterate 2 refine RD.step0 (heap' := [(0, .box (TSession.c s0)), (1, .box (TDesc.c d1)), (2, .box (TSession.c s0)), (3, .box [.int .i64 0, .int .i64 0, .bool false, .bool false, .bool false, .int .u32 0, .nils]), (4, .box (TTalk.c c16)), (5, .box [.ptr 4 0])]) (next' := 6) rfl rfl rfl rfl rfl ?_
   iterate 2 refine RD.m rfl ?_
   refine RD.done rfl ?_
   refine WK.ret ?_
   obtain rfl := Option.some.inj hR
   exact RetQ.frw [] (.inr rfl) rfl rfl rfl (.tup (.cons .refl (.cons (.agg (.cons .refl (.cons .refl (.cons .refl (.cons .refl (.cons .refl (.cons .refl (.cons .nil .refl)))))))) .refl)))
  ·rw [hb5]; first | replace hR := cond_t hb5 hR | (try simp only [hb5, bb] at hR)
   refine WK.condF rfl ?_
   refine WK.skip ?_
   refine WK.seq ?_
   refine WK.drawn mixed ?_
   refine RD.m rfl ?_
   iterate 2 refine RD.q (.ptr 4 0) ?_
   refine RD.q (.agg [.int .u32 c16.Session.Own, .int .u32 c16.Session.Peer, .int .i64 c16.Session.Phase, .bool c16.Session.Leads, .int .u32 c16.Session.Seq, .ro 8 (c16.Session.Left.map THeader.c), .ro 8 (c16.Session.Got.map THeader.c), .int .i64 c16.Session.Last.MTU, .int .i64 c16.Session.Last.Options, .bool c16.Session.Last.Init, .bool c16.Session.Last.More, .bool c16.Session.Last.Master, .int .u32 c16.Session.Last.Seq, .ro 8 (c16.Session.Last.Heads.map THeader.c)]) ?_
   refine RD.m rfl ?_
   refine RD.q (.ptr 4 0) ?_
   refine RD.q (.ptr 4 14) ?_
   refine RD.q (.agg [.int .i64 c16.out.MTU, .int .i64 c16.out.Options, .bool c16.out.Init, .bool c16.out.More, .bool c16.out.Master, .int .u32 c16.out.Seq, .ro 8 (c16.out.Heads.map THeader.c)]) ?_
   refine RD.m rfl ?_
   refine RD.q (.ptr 4 0) ?_
   refine RD.q (.ptr 4 21) ?_
   refine RD.q (.bool c16.sent) ?_
   refine RD.step0 (heap' := [(0, .box (TSession.c s0)), (1, .box (TDesc.c d1)), (2, .box (TSession.c c16.Session)), (3, .box [.int .i64 0, .int .i64 0, .bool false, .bool false, .bool false, .int .u32 0, .nils]), (4, .box (TTalk.c c16)), (5, .box [.ptr 4 0])]) (next' := 6) rfl rfl rfl rfl rfl ?_
   refine RD.step0 (heap' := [(0, .box (TSession.c s0)), (1, .box (TDesc.c d1)), (2, .box (TSession.c c16.Session)), (3, .box (TDesc.c c16.out)), (4, .box (TTalk.c c16)), (5, .box [.ptr 4 0])]) (next' := 6) rfl rfl rfl rfl rfl ?_
   iterate 2 refine RD.m rfl ?_
   refine RD.done rfl ?_
   refine WK.ret ?_
   obtain rfl := Option.some.inj hR
   exact RetQ.fr [] (.inr rfl) rfl rfl rfl rfl
 ·try dsimp only at hR
  refine RD.callx (r' := .fn 45 [] [.ptr 5 0]) (heap' := [(0, .box (TSession.c s0)), (1, .box (TDesc.c d1)), (2, .box [.int .u32 0, .int .u32 0, .int .i64 0, .bool false, .int .u32 0, .nils, .nils, .int .i64 0, .int .i64 0, .bool false, .bool false, .bool false, .int .u32 0, .nils]), (3, .box [.int .i64 0, .int .i64 0, .bool false, .bool false, .bool false, .int .u32 0, .nils]), (4, .box (TTalk.c c14b)), (5, .box [.ptr 4 0])]) (next' := 6) [4] [] rfl rfl rfl rfl rfl rfl (f28_ok (⟨s0, (⟨0, 0, false, false, false, 0, ([] : List THeader)⟩ : TDesc), false, 0⟩ : TTalk) d1 _ hc14) (.inl rfl) rfl rfl rfl ?_
  refine RD.q (.agg (TDesc.c d1)) ?_
  generalize hc16 : F45_exch_talk_hears_1 d1 c14b = c16 at hR
  try dsimp only at hR
  refine RD.callvx (r' := .tup []) (heap' := [(0, .box (TSession.c s0)), (1, .box (TDesc.c d1)), (2, .box [.int .u32 0, .int .u32 0, .int .i64 0, .bool false, .int .u32 0, .nils, .nils, .int .i64 0, .int .i64 0, .bool false, .bool false, .bool false, .int .u32 0, .nils]), (3, .box [.int .i64 0, .int .i64 0, .bool false, .bool false, .bool false, .int .u32 0, .nils]), (4, .box (TTalk.c c16)), (5, .box [.ptr 4 0])]) (next' := 6) [4, 5] [] rfl rfl rfl rfl rfl rfl (f45_ok d1 c14b _ hc16) (.inl rfl) rfl rfl rfl ?_
  refine RD.done rfl ?_
  refine WK.seq ?_
  refine WK.sr mixed ?_
  refine GX.m rfl ?_
  refine GX.q (.ptr 4 0) ?_
  refine GX.q (.ptr 4 22) ?_
  refine GX.q (.int .i64 c16.e) ?_
  refine GX.q (.bool (!decide (c16.e = 0))) ?_
  refine GX.done ?_
  rcases bool_two (decide (c16.e = 0)) with hb7 | hb7
  ·rw [hb7]; first | replace hR := cond_f hb7 hR | (try simp only [hb7, bb] at hR)
   refine WK.condT rfl ?_
   refine WK.seq ?_
   refine WK.drawn mixed ?_
   refine RD.q (.agg (TSession.c s0)) ?_
   refine RD.q (.agg [.int .i64 0, .int .i64 0, .bool false, .bool false, .bool false, .int .u32 0, .nils]) ?_
   refine RD.m rfl ?_
   refine RD.q (.ptr 4 0) ?_
   refine RD.q (.ptr 4 22) ?_
   refine RD.q (.int .i64 c16.e) ?_
   iterate 2 refine RD.step0 (heap' := [(0, .box (TSession.c s0)), (1, .box (TDesc.c d1)), (2, .box (TSession.c s0)), (3, .box [.int .i64 0, .int .i64 0, .bool false, .bool false, .bool false, .int .u32 0, .nils]), (4, .box (TTalk.c c16)), (5, .box [.ptr 4 0])]) (next' := 6) rfl rfl rfl rfl rfl ?_
   iterate 2 refine RD.m rfl ?_
   refine RD.done rfl ?_
   refine WK.ret ?_
   obtain rfl := Option.some.inj hR
   exact RetQ.frw [] (.inr rfl) rfl rfl rfl (.tup (.cons .refl (.cons (.agg (.cons .refl (.cons .refl (.cons .refl (.cons .refl (.cons .refl (.cons .refl (.cons .nil .refl)))))))) .refl)))
  ·rw [hb7]; first | replace hR := cond_t hb7 hR | (try simp only [hb7, bb] at hR)
   refine WK.condF rfl ?_
   refine WK.skip ?_
   refine WK.seq ?_
   refine WK.drawn mixed ?_
   refine RD.m rfl ?_
   iterate 2 refine RD.q (.ptr 4 0) ?_
   refine RD.q (.agg [.int .u32 c16.Session.Own, .int .u32 c16.Session.Peer, .int .i64 c16.Session.Phase, .bool c16.Session.Leads, .int .u32 c16.Session.Seq, .ro 8 (c16.Session.Left.map THeader.c), .ro 8 (c16.Session.Got.map THeader.c), .int .i64 c16.Session.Last.MTU, .int .i64 c16.Session.Last.Options, .bool c16.Session.Last.Init, .bool c16.Session.Last.More, .bool c16.Session.Last.Master, .int .u32 c16.Session.Last.Seq, .ro 8 (c16.Session.Last.Heads.map THeader.c)]) ?_
   refine RD.m rfl ?_
   refine RD.q (.ptr 4 0) ?_
   refine RD.q (.ptr 4 14) ?_
   refine RD.q (.agg [.int .i64 c16.out.MTU, .int .i64 c16.out.Options, .bool c16.out.Init, .bool c16.out.More, .bool c16.out.Master, .int .u32 c16.out.Seq, .ro 8 (c16.out.Heads.map THeader.c)]) ?_
   refine RD.m rfl ?_
   refine RD.q (.ptr 4 0) ?_
   refine RD.q (.ptr 4 21) ?_
   refine RD.q (.bool c16.sent) ?_
   refine RD.step0 (heap' := [(0, .box (TSession.c s0)), (1, .box (TDesc.c d1)), (2, .box (TSession.c c16.Session)), (3, .box [.int .i64 0, .int .i64 0, .bool false, .bool false, .bool false, .int .u32 0, .nils]), (4, .box (TTalk.c c16)), (5, .box [.ptr 4 0])]) (next' := 6) rfl rfl rfl rfl rfl ?_
   refine RD.step0 (heap' := [(0, .box (TSession.c s0)), (1, .box (TDesc.c d1)), (2, .box (TSession.c c16.Session)), (3, .box (TDesc.c c16.out)), (4, .box (TTalk.c c16)), (5, .box [.ptr 4 0])]) (next' := 6) rfl rfl rfl rfl rfl ?_
   iterate 2 refine RD.m rfl ?_
   refine RD.done rfl ?_
   refine WK.ret ?_
   obtain rfl := Option.some.inj hR
   exact RetQ.fr [] (.inr rfl) rfl rfl rfl rfl
 ·try dsimp only at hR
  refine RD.callx (r' := .fn 44 [.ptr 4 0] []) (heap' := [(0, .box (TSession.c s0)), (1, .box (TDesc.c d1)), (2, .box [.int .u32 0, .int .u32 0, .int .i64 0, .bool false, .int .u32 0, .nils, .nils, .int .i64 0, .int .i64 0, .bool false, .bool false, .bool false, .int .u32 0, .nils]), (3, .box [.int .i64 0, .int .i64 0, .bool false, .bool false, .bool false, .int .u32 0, .nils]), (4, .box (TTalk.c c14b)), (5, .box [.ptr 4 0])]) (next' := 6) [4] [] rfl rfl rfl rfl rfl rfl (f28_ok (⟨s0, (⟨0, 0, false, false, false, 0, ([] : List THeader)⟩ : TDesc), false, 0⟩ : TTalk) d1 _ hc14) (.inl rfl) rfl rfl rfl ?_
  refine RD.q (.agg (TDesc.c d1)) ?_
  generalize hc16 : F44_exch_talk_begin c14b d1 = c16 at hR
  rcases c16 with _ | c16
  ·try dsimp only at hR
   cases hR
  try dsimp only at hR
  try dsimp only at hR
  refine RD.callvx (r' := .tup []) (heap' := [(0, .box (TSession.c s0)), (1, .box (TDesc.c d1)), (2, .box [.int .u32 0, .int .u32 0, .int .i64 0, .bool false, .int .u32 0, .nils, .nils, .int .i64 0, .int .i64 0, .bool false, .bool false, .bool false, .int .u32 0, .nils]), (3, .box [.int .i64 0, .int .i64 0, .bool false, .bool false, .bool false, .int .u32 0, .nils]), (4, .box (TTalk.c c16)), (5, .box [.ptr 4 0])]) (next' := 6) [4] [] rfl rfl rfl rfl rfl rfl (f44_ok c14b d1 _ hc16) (.inl rfl) rfl rfl rfl ?_
  refine RD.done rfl ?_
  refine WK.seq ?_
  refine WK.sr mixed ?_
  refine GX.m rfl ?_
  refine GX.q (.ptr 4 0) ?_
  refine GX.q (.ptr 4 22) ?_
  refine GX.q (.int .i64 c16.e) ?_
  refine GX.q (.bool (!decide (c16.e = 0))) ?_
  refine GX.done ?_
  rcases bool_two (decide (c16.e = 0)) with hb9 | hb9
  ·rw [hb9]; first | replace hR := cond_f hb9 hR | (try simp only [hb9, bb] at hR)
   refine WK.condT rfl ?_
   refine WK.seq ?_
   refine WK.drawn mixed ?_
   refine RD.q (.agg (TSession.c s0)) ?_
   refine RD.q (.agg [.int .i64 0, .int .i64 0, .bool false, .bool false, .bool false, .int .u32 0, .nils]) ?_
   refine RD.m rfl ?_
   refine RD.q (.ptr 4 0) ?_
   refine RD.q (.ptr 4 22) ?_
   refine RD.q (.int .i64 c16.e) ?_
   iterate 2 refine RD.step0 (heap' := [(0, .box (TSession.c s0)), (1, .box (TDesc.c d1)), (2, .box (TSession.c s0)), (3, .box [.int .i64 0, .int .i64 0, .bool false, .bool false, .bool false, .int .u32 0, .nils]), (4, .box (TTalk.c c16)), (5, .box [.ptr 4 0])]) (next' := 6) rfl rfl rfl rfl rfl ?_
   iterate 2 refine RD.m rfl ?_
   refine RD.done rfl ?_
   refine WK.ret ?_
   obtain rfl := Option.some.inj hR
   exact RetQ.frw [] (.inr rfl) rfl rfl rfl (.tup (.cons .refl (.cons (.agg (.cons .refl (.cons .refl (.cons .refl (.cons .refl (.cons .refl (.cons .refl (.cons .nil .refl)))))))) .refl)))
  ·rw [hb9]; first | replace hR := cond_t hb9 hR | (try simp only [hb9, bb] at hR)
   refine WK.condF rfl ?_
   refine WK.skip ?_
   refine WK.seq ?_
   refine WK.drawn mixed ?_
   refine RD.m rfl ?_
   iterate 2 refine RD.q (.ptr 4 0) ?_
   refine RD.q (.agg [.int .u32 c16.Session.Own, .int .u32 c16.Session.Peer, .int .i64 c16.Session.Phase, .bool c16.Session.Leads, .int .u32 c16.Session.Seq, .ro 8 (c16.Session.Left.map THeader.c), .ro 8 (c16.Session.Got.map THeader.c), .int .i64 c16.Session.Last.MTU, .int .i64 c16.Session.Last.Options, .bool c16.Session.Last.Init, .bool c16.Session.Last.More, .bool c16.Session.Last.Master, .int .u32 c16.Session.Last.Seq, .ro 8 (c16.Session.Last.Heads.map THeader.c)]) ?_
   refine RD.m rfl ?_
   refine RD.q (.ptr 4 0) ?_
   refine RD.q (.ptr 4 14) ?_
   refine RD.q (.agg [.int .i64 c16.out.MTU, .int .i64 c16.out.Options, .bool c16.out.Init, .bool c16.out.More, .bool c16.out.Master, .int .u32 c16.out.Seq, .ro 8 (c16.out.Heads.map THeader.c)]) ?_
   refine RD.m rfl ?_
   refine RD.q (.ptr 4 0) ?_
   refine RD.q (.ptr 4 21) ?_
   refine RD.q (.bool c16.sent) ?_
   refine RD.step0 (heap' := [(0, .box (TSession.c s0)), (1, .box (TDesc.c d1)), (2, .box (TSession.c c16.Session)), (3, .box [.int .i64 0, .int .i64 0, .bool false, .bool false, .bool false, .int .u32 0, .nils]), (4, .box (TTalk.c c16)), (5, .box [.ptr 4 0])]) (next' := 6) rfl rfl rfl rfl rfl ?_
   refine RD.step0 (heap' := [(0, .box (TSession.c s0)), (1, .box (TDesc.c d1)), (2, .box (TSession.c c16.Session)), (3, .box (TDesc.c c16.out)), (4, .box (TTalk.c c16)), (5, .box [.ptr 4 0])]) (next' := 6) rfl rfl rfl rfl rfl ?_
   iterate 2 refine RD.m rfl ?_
   refine RD.done rfl ?_
   refine WK.ret ?_
   obtain rfl := Option.some.inj hR
   exact RetQ.fr [] (.inr rfl) rfl rfl rfl rfl

theorem f8_ok  (R : Bool) (hR : F8_crossroadslaw17_alive = some R) : FnOk Try.prog 8 [] [] 0 (.bool R) [] 0 := by
 refine FnOk.wk i8 rfl rfl ?_
 unfold F8_crossroadslaw17_alive at hR
 try dsimp only at hR
 change WK _ _ _ [ac8] _ ⟨[], [], 0⟩
 unfold ac8
 refine WK.sr mixed ?_
 refine GX.m rfl ?_
 refine GX.done ?_
 refine WK.sr mixed ?_
 generalize hc16 : F9_exch_Open 1 2 5 ([] : List THeader) = c16 at hR
 rcases c16 with _ | c16
 ·try dsimp only at hR
  cases hR
 try dsimp only at hR
 obtain ⟨c16a, c16b⟩ := c16; try dsimp only at hR
 refine GX.callp (r := .tup [.agg [.int .u32 c16a.Own, .int .u32 c16a.Peer, .int .i64 c16a.Phase, .bool c16a.Leads, .int .u32 c16a.Seq, .ro 8 (c16a.Left.map THeader.c), .ro 8 (c16a.Got.map THeader.c), .int .i64 c16a.Last.MTU, .int .i64 c16a.Last.Options, .bool c16a.Last.Init, .bool c16a.Last.More, .bool c16a.Last.Master, .int .u32 c16a.Last.Seq, .ro 8 (c16a.Last.Heads.map THeader.c)], .agg [.int .i64 c16b.MTU, .int .i64 c16b.Options, .bool c16b.Init, .bool c16b.More, .bool c16b.Master, .int .u32 c16b.Seq, .ro 8 (c16b.Heads.map THeader.c)]]) rfl rfl rfl (FnOk.weak (f9_ok 1 2 5 ([] : List THeader) _ hc16) (.cons .refl (.cons .refl (.cons .refl (.cons .nil .refl))))) rfl rfl ?_
 refine GX.m rfl ?_
 refine GX.q (.agg [.int .u32 c16a.Own, .int .u32 c16a.Peer, .int .i64 c16a.Phase, .bool c16a.Leads, .int .u32 c16a.Seq, .ro 8 (c16a.Left.map THeader.c), .ro 8 (c16a.Got.map THeader.c), .int .i64 c16a.Last.MTU, .int .i64 c16a.Last.Options, .bool c16a.Last.Init, .bool c16a.Last.More, .bool c16a.Last.Master, .int .u32 c16a.Last.Seq, .ro 8 (c16a.Last.Heads.map THeader.c)]) ?_
 refine GX.q (.agg [.int .i64 c16b.MTU, .int .i64 c16b.Options, .bool c16b.Init, .bool c16b.More, .bool c16b.Master, .int .u32 c16b.Seq, .ro 8 (c16b.Heads.map THeader.c)]) ?_
 refine GX.step (v' := .ptr 0 0) (heap' := [(0, .box [.int .u32 0, .int .u32 0, .int .i64 0, .bool false, .int .u32 0, .nils, .nils, .int .i64 0, .int .i64 0, .bool false, .bool false, .bool false, .int .u32 0, .nils])]) (next' := 1) rfl rfl rfl rfl rfl rfl rfl ?_
 refine GX.step (v' := .ptr 1 0) (heap' := [(0, .box [.int .u32 0, .int .u32 0, .int .i64 0, .bool false, .int .u32 0, .nils, .nils, .int .i64 0, .int .i64 0, .bool false, .bool false, .bool false, .int .u32 0, .nils]), (1, .box [.int .i64 0, .int .i64 0, .bool false, .bool false, .bool false, .int .u32 0, .nils])]) (next' := 2) rfl rfl rfl rfl rfl rfl rfl ?_
 refine GX.step0 (heap' := [(0, .box (TSession.c c16a)), (1, .box [.int .i64 0, .int .i64 0, .bool false, .bool false, .bool false, .int .u32 0, .nils])]) (next' := 2) rfl rfl rfl rfl rfl ?_
 refine GX.step0 (heap' := [(0, .box (TSession.c c16a)), (1, .box (TDesc.c c16b))]) (next' := 2) rfl rfl rfl rfl rfl ?_
 refine GX.done ?_
 refine WK.sr mixed ?_
 generalize hc20 : F9_exch_Open 2 1 7 ([] : List THeader) = c20 at hR
 rcases c20 with _ | c20
 ·try dsimp only at hR
  cases hR
 try dsimp only at hR
 obtain ⟨c20a, c20b⟩ := c20; try dsimp only at hR
 refine GX.callp (r := .tup [.agg [.int .u32 c20a.Own, .int .u32 c20a.Peer, .int .i64 c20a.Phase, .bool c20a.Leads, .int .u32 c20a.Seq, .ro 8 (c20a.Left.map THeader.c), .ro 8 (c20a.Got.map THeader.c), .int .i64 c20a.Last.MTU, .int .i64 c20a.Last.Options, .bool c20a.Last.Init, .bool c20a.Last.More, .bool c20a.Last.Master, .int .u32 c20a.Last.Seq, .ro 8 (c20a.Last.Heads.map THeader.c)], .agg [.int .i64 c20b.MTU, .int .i64 c20b.Options, .bool c20b.Init, .bool c20b.More, .bool c20b.Master, .int .u32 c20b.Seq, .ro 8 (c20b.Heads.map THeader.c)]]) rfl rfl rfl (FnOk.weak (f9_ok 2 1 7 ([] : List THeader) _ hc20) (.cons .refl (.cons .refl (.cons .refl (.cons .nil .refl))))) rfl rfl ?_
 refine GX.m rfl ?_
 refine GX.q (.agg [.int .u32 c20a.Own, .int .u32 c20a.Peer, .int .i64 c20a.Phase, .bool c20a.Leads, .int .u32 c20a.Seq, .ro 8 (c20a.Left.map THeader.c), .ro 8 (c20a.Got.map THeader.c), .int .i64 c20a.Last.MTU, .int .i64 c20a.Last.Options, .bool c20a.Last.Init, .bool c20a.Last.More, .bool c20a.Last.Master, .int .u32 c20a.Last.Seq, .ro 8 (c20a.Last.Heads.map THeader.c)]) ?_
 refine GX.q (.agg [.int .i64 c20b.MTU, .int .i64 c20b.Options, .bool c20b.Init, .bool c20b.More, .bool c20b.Master, .int .u32 c20b.Seq, .ro 8 (c20b.Heads.map THeader.c)]) ?_
 refine GX.step (v' := .ptr 2 0) (heap' := [(0, .box (TSession.c c16a)), (1, .box (TDesc.c c16b)), (2, .box [.int .u32 0, .int .u32 0, .int .i64 0, .bool false, .int .u32 0, .nils, .nils, .int .i64 0, .int .i64 0, .bool false, .bool false, .bool false, .int .u32 0, .nils])]) (next' := 3) rfl rfl rfl rfl rfl rfl rfl ?_
 refine GX.step (v' := .ptr 3 0) (heap' := [(0, .box (TSession.c c16a)), (1, .box (TDesc.c c16b)), (2, .box [.int .u32 0, .int .u32 0, .int .i64 0, .bool false, .int .u32 0, .nils, .nils, .int .i64 0, .int .i64 0, .bool false, .bool false, .bool false, .int .u32 0, .nils]), (3, .box [.int .i64 0, .int .i64 0, .bool false, .bool false, .bool false, .int .u32 0, .nils])]) (next' := 4) rfl rfl rfl rfl rfl rfl rfl ?_
 refine GX.step0 (heap' := [(0, .box (TSession.c c16a)), (1, .box (TDesc.c c16b)), (2, .box (TSession.c c20a)), (3, .box [.int .i64 0, .int .i64 0, .bool false, .bool false, .bool false, .int .u32 0, .nils])]) (next' := 4) rfl rfl rfl rfl rfl ?_
 refine GX.step0 (heap' := [(0, .box (TSession.c c16a)), (1, .box (TDesc.c c16b)), (2, .box (TSession.c c20a)), (3, .box (TDesc.c c20b))]) (next' := 4) rfl rfl rfl rfl rfl ?_
 refine GX.done ?_
 refine WK.sr mixed ?_
 refine GX.q (.agg (TSession.c c16a)) ?_
 refine GX.q (.agg (TDesc.c c20b)) ?_
 generalize hc26 : F15_exch_Hear c16a c20b = c26 at hR
 rcases c26 with _ | c26
 ·try dsimp only at hR
  cases hR
 try dsimp only at hR
 obtain ⟨c26a, c26b, c26c, c26d⟩ := c26; try dsimp only at hR
 refine GX.callp (r := .tup [.agg [.int .u32 c26a.Own, .int .u32 c26a.Peer, .int .i64 c26a.Phase, .bool c26a.Leads, .int .u32 c26a.Seq, .ro 8 (c26a.Left.map THeader.c), .ro 8 (c26a.Got.map THeader.c), .int .i64 c26a.Last.MTU, .int .i64 c26a.Last.Options, .bool c26a.Last.Init, .bool c26a.Last.More, .bool c26a.Last.Master, .int .u32 c26a.Last.Seq, .ro 8 (c26a.Last.Heads.map THeader.c)], .agg [.int .i64 c26b.MTU, .int .i64 c26b.Options, .bool c26b.Init, .bool c26b.More, .bool c26b.Master, .int .u32 c26b.Seq, .ro 8 (c26b.Heads.map THeader.c)], .bool c26c, .int .i64 c26d]) rfl rfl rfl (f15_ok c16a c20b _ hc26) rfl rfl ?_
 refine GX.m rfl ?_
 refine GX.q (.agg [.int .u32 c26a.Own, .int .u32 c26a.Peer, .int .i64 c26a.Phase, .bool c26a.Leads, .int .u32 c26a.Seq, .ro 8 (c26a.Left.map THeader.c), .ro 8 (c26a.Got.map THeader.c), .int .i64 c26a.Last.MTU, .int .i64 c26a.Last.Options, .bool c26a.Last.Init, .bool c26a.Last.More, .bool c26a.Last.Master, .int .u32 c26a.Last.Seq, .ro 8 (c26a.Last.Heads.map THeader.c)]) ?_
 refine GX.q (.agg [.int .i64 c26b.MTU, .int .i64 c26b.Options, .bool c26b.Init, .bool c26b.More, .bool c26b.Master, .int .u32 c26b.Seq, .ro 8 (c26b.Heads.map THeader.c)]) ?_
 refine GX.q (.bool c26c) ?_
 refine GX.q (.int .i64 c26d) ?_
 refine GX.step (v' := .ptr 4 0) (heap' := [(0, .box (TSession.c c16a)), (1, .box (TDesc.c c16b)), (2, .box (TSession.c c20a)), (3, .box (TDesc.c c20b)), (4, .box [.int .i64 0, .int .i64 0, .bool false, .bool false, .bool false, .int .u32 0, .nils])]) (next' := 5) rfl rfl rfl rfl rfl rfl rfl ?_
 refine GX.step0 (heap' := [(0, .box (TSession.c c26a)), (1, .box (TDesc.c c16b)), (2, .box (TSession.c c20a)), (3, .box (TDesc.c c20b)), (4, .box [.int .i64 0, .int .i64 0, .bool false, .bool false, .bool false, .int .u32 0, .nils])]) (next' := 5) rfl rfl rfl rfl rfl ?_
 refine GX.step0 (heap' := [(0, .box (TSession.c c26a)), (1, .box (TDesc.c c16b)), (2, .box (TSession.c c20a)), (3, .box (TDesc.c c20b)), (4, .box (TDesc.c c26b))]) (next' := 5) rfl rfl rfl rfl rfl ?_
 iterate 2 refine GX.m rfl ?_
 refine GX.done ?_
 refine WK.sr mixed ?_
 refine GX.q (.agg (TSession.c c20a)) ?_
 refine GX.q (.agg (TDesc.c c16b)) ?_
 generalize hc34 : F15_exch_Hear c20a c16b = c34 at hR
 rcases c34 with _ | c34
 ·try dsimp only at hR
  cases hR
 try dsimp only at hR
 obtain ⟨c34a, c34b, c34c, c34d⟩ := c34; try dsimp only at hR
 refine GX.callp (r := .tup [.agg [.int .u32 c34a.Own, .int .u32 c34a.Peer, .int .i64 c34a.Phase, .bool c34a.Leads, .int .u32 c34a.Seq, .ro 8 (c34a.Left.map THeader.c), .ro 8 (c34a.Got.map THeader.c), .int .i64 c34a.Last.MTU, .int .i64 c34a.Last.Options, .bool c34a.Last.Init, .bool c34a.Last.More, .bool c34a.Last.Master, .int .u32 c34a.Last.Seq, .ro 8 (c34a.Last.Heads.map THeader.c)], .agg [.int .i64 c34b.MTU, .int .i64 c34b.Options, .bool c34b.Init, .bool c34b.More, .bool c34b.Master, .int .u32 c34b.Seq, .ro 8 (c34b.Heads.map THeader.c)], .bool c34c, .int .i64 c34d]) rfl rfl rfl (f15_ok c20a c16b _ hc34) rfl rfl ?_
 refine GX.m rfl ?_
 refine GX.q (.agg [.int .u32 c34a.Own, .int .u32 c34a.Peer, .int .i64 c34a.Phase, .bool c34a.Leads, .int .u32 c34a.Seq, .ro 8 (c34a.Left.map THeader.c), .ro 8 (c34a.Got.map THeader.c), .int .i64 c34a.Last.MTU, .int .i64 c34a.Last.Options, .bool c34a.Last.Init, .bool c34a.Last.More, .bool c34a.Last.Master, .int .u32 c34a.Last.Seq, .ro 8 (c34a.Last.Heads.map THeader.c)]) ?_
 refine GX.q (.agg [.int .i64 c34b.MTU, .int .i64 c34b.Options, .bool c34b.Init, .bool c34b.More, .bool c34b.Master, .int .u32 c34b.Seq, .ro 8 (c34b.Heads.map THeader.c)]) ?_
 refine GX.q (.bool c34c) ?_
 refine GX.q (.int .i64 c34d) ?_
 refine GX.step (v' := .ptr 5 0) (heap' := [(0, .box (TSession.c c26a)), (1, .box (TDesc.c c16b)), (2, .box (TSession.c c20a)), (3, .box (TDesc.c c20b)), (4, .box (TDesc.c c26b)), (5, .box [.int .u32 0, .int .u32 0, .int .i64 0, .bool false, .int .u32 0, .nils, .nils, .int .i64 0, .int .i64 0, .bool false, .bool false, .bool false, .int .u32 0, .nils])]) (next' := 6) rfl rfl rfl rfl rfl rfl rfl ?_
 refine GX.step (v' := .ptr 6 0) (heap' := [(0, .box (TSession.c c26a)), (1, .box (TDesc.c c16b)), (2, .box (TSession.c c20a)), (3, .box (TDesc.c c20b)), (4, .box (TDesc.c c26b)), (5, .box [.int .u32 0, .int .u32 0, .int .i64 0, .bool false, .int .u32 0, .nils, .nils, .int .i64 0, .int .i64 0, .bool false, .bool false, .bool false, .int .u32 0, .nils]), (6, .box [.int .i64 0, .int .i64 0, .bool false, .bool false, .bool false, .int .u32 0, .nils])]) (next' := 7) rfl rfl rfl rfl rfl rfl rfl ?_
 refine GX.step0 (heap' := [(0, .box (TSession.c c26a)), (1, .box (TDesc.c c16b)), (2, .box (TSession.c c20a)), (3, .box (TDesc.c c20b)), (4, .box (TDesc.c c26b)), (5, .box (TSession.c c34a)), (6, .box [.int .i64 0, .int .i64 0, .bool false, .bool false, .bool false, .int .u32 0, .nils])]) (next' := 7) rfl rfl rfl rfl rfl ?_
 refine GX.step0 (heap' := [(0, .box (TSession.c c26a)), (1, .box (TDesc.c c16b)), (2, .box (TSession.c c20a)), (3, .box (TDesc.c c20b)), (4, .box (TDesc.c c26b)), (5, .box (TSession.c c34a)), (6, .box (TDesc.c c34b))]) (next' := 7) rfl rfl rfl rfl rfl ?_
 iterate 2 refine GX.m rfl ?_
 refine GX.done ?_
 refine WK.sr mixed ?_
 refine GX.q (.agg (TSession.c c20a)) ?_
 refine GX.q (.agg (TDesc.c c26b)) ?_
 generalize hc42 : F15_exch_Hear c20a c26b = c42 at hR
 rcases c42 with _ | c42
 ·try dsimp only at hR
  cases hR
 try dsimp only at hR
 obtain ⟨c42a, c42b, c42c, c42d⟩ := c42; try dsimp only at hR
 refine GX.callp (r := .tup [.agg [.int .u32 c42a.Own, .int .u32 c42a.Peer, .int .i64 c42a.Phase, .bool c42a.Leads, .int .u32 c42a.Seq, .ro 8 (c42a.Left.map THeader.c), .ro 8 (c42a.Got.map THeader.c), .int .i64 c42a.Last.MTU, .int .i64 c42a.Last.Options, .bool c42a.Last.Init, .bool c42a.Last.More, .bool c42a.Last.Master, .int .u32 c42a.Last.Seq, .ro 8 (c42a.Last.Heads.map THeader.c)], .agg [.int .i64 c42b.MTU, .int .i64 c42b.Options, .bool c42b.Init, .bool c42b.More, .bool c42b.Master, .int .u32 c42b.Seq, .ro 8 (c42b.Heads.map THeader.c)], .bool c42c, .int .i64 c42d]) rfl rfl rfl (f15_ok c20a c26b _ hc42) rfl rfl ?_
 refine GX.m rfl ?_
 refine GX.q (.agg [.int .u32 c42a.Own, .int .u32 c42a.Peer, .int .i64 c42a.Phase, .bool c42a.Leads, .int .u32 c42a.Seq, .ro 8 (c42a.Left.map THeader.c), .ro 8 (c42a.Got.map THeader.c), .int .i64 c42a.Last.MTU, .int .i64 c42a.Last.Options, .bool c42a.Last.Init, .bool c42a.Last.More, .bool c42a.Last.Master, .int .u32 c42a.Last.Seq, .ro 8 (c42a.Last.Heads.map THeader.c)]) ?_
 refine GX.q (.agg [.int .i64 c42b.MTU, .int .i64 c42b.Options, .bool c42b.Init, .bool c42b.More, .bool c42b.Master, .int .u32 c42b.Seq, .ro 8 (c42b.Heads.map THeader.c)]) ?_
 refine GX.q (.bool c42c) ?_
 refine GX.q (.int .i64 c42d) ?_
 refine GX.step (v' := .ptr 7 0) (heap' := [(0, .box (TSession.c c26a)), (1, .box (TDesc.c c16b)), (2, .box (TSession.c c20a)), (3, .box (TDesc.c c20b)), (4, .box (TDesc.c c26b)), (5, .box (TSession.c c34a)), (6, .box (TDesc.c c34b)), (7, .box [.int .i64 0, .int .i64 0, .bool false, .bool false, .bool false, .int .u32 0, .nils])]) (next' := 8) rfl rfl rfl rfl rfl rfl rfl ?_
 refine GX.step0 (heap' := [(0, .box (TSession.c c26a)), (1, .box (TDesc.c c16b)), (2, .box (TSession.c c42a)), (3, .box (TDesc.c c20b)), (4, .box (TDesc.c c26b)), (5, .box (TSession.c c34a)), (6, .box (TDesc.c c34b)), (7, .box [.int .i64 0, .int .i64 0, .bool false, .bool false, .bool false, .int .u32 0, .nils])]) (next' := 8) rfl rfl rfl rfl rfl ?_
 refine GX.step0 (heap' := [(0, .box (TSession.c c26a)), (1, .box (TDesc.c c16b)), (2, .box (TSession.c c42a)), (3, .box (TDesc.c c20b)), (4, .box (TDesc.c c26b)), (5, .box (TSession.c c34a)), (6, .box (TDesc.c c34b)), (7, .box (TDesc.c c42b))]) (next' := 8) rfl rfl rfl rfl rfl ?_
 iterate 2 refine GX.m rfl ?_
 refine GX.done ?_
 refine WK.sr mixed ?_
 iterate 2 refine GX.m rfl ?_
 rcases bool_two (c26c) with hb1 | hb1
 ·rw [hb1]; first | replace hR := cond_f hb1 hR | (try simp only [hb1, bb] at hR)
  iterate 2 refine GX.skip rfl rfl ?_
  refine GX.q (.bool false) ?_
  refine GX.m rfl ?_
  iterate 2 refine GX.skip rfl rfl ?_
  refine GX.q (.bool false) ?_
  refine GX.m rfl ?_
  iterate 3 refine GX.skip rfl rfl ?_
  refine GX.q (.bool false) ?_
  refine GX.m rfl ?_
  iterate 3 refine GX.skip rfl rfl ?_
  refine GX.q (.bool false) ?_
  refine GX.m rfl ?_
  iterate 2 refine GX.skip rfl rfl ?_
  refine GX.q (.bool false) ?_
  refine GX.m rfl ?_
  iterate 3 refine GX.skip rfl rfl ?_
  refine GX.q (.bool false) ?_
  refine GX.m rfl ?_
  refine GX.done ?_
  refine WK.ret ?_
  obtain rfl := Option.some.inj hR
  exact RetQ.fr [] (.inr rfl) rfl rfl rfl rfl
 ·rw [hb1]; first | replace hR := cond_t hb1 hR | (try simp only [hb1, bb] at hR)
  refine GX.m rfl ?_
  iterate 2 refine GX.q (.bool (!c34c)) ?_
  refine GX.m rfl ?_
  rcases bool_two (c34c) with hb2 | hb2
  ·rw [hb2]; first | replace hR := cond_f hb2 hR | (try simp only [hb2, bb] at hR)
   refine GX.m rfl ?_
   iterate 2 refine GX.q (.bool (decide (c42d = 0))) ?_
   refine GX.m rfl ?_
   rcases bool_two (decide (c42d = 0)) with hb3 | hb3
   ·rw [hb3]; first | replace hR := cond_f hb3 hR | (try simp only [hb3, bb] at hR)
    iterate 3 refine GX.skip rfl rfl ?_
    refine GX.q (.bool false) ?_
    refine GX.m rfl ?_
    iterate 3 refine GX.skip rfl rfl ?_
    refine GX.q (.bool false) ?_
    refine GX.m rfl ?_
    iterate 2 refine GX.skip rfl rfl ?_
    refine GX.q (.bool false) ?_
    refine GX.m rfl ?_
    iterate 3 refine GX.skip rfl rfl ?_
    refine GX.q (.bool false) ?_
    refine GX.m rfl ?_
    refine GX.done ?_
    refine WK.ret ?_
    obtain rfl := Option.some.inj hR
    exact RetQ.fr [] (.inr rfl) rfl rfl rfl rfl
   ·rw [hb3]; first | replace hR := cond_t hb3 hR | (try simp only [hb3, bb] at hR)
    refine GX.q (.ptr 0 2) ?_
    refine GX.q (.int .i64 c26a.Phase) ?_
    iterate 2 refine GX.q (.bool (decide (c26a.Phase = 1))) ?_
    refine GX.m rfl ?_
    rcases bool_two (decide (c26a.Phase = 1)) with hb4 | hb4
    ·rw [hb4]; first | replace hR := cond_f hb4 hR | (try simp only [hb4, bb] at hR)
     iterate 3 refine GX.skip rfl rfl ?_
     refine GX.q (.bool false) ?_
     refine GX.m rfl ?_
     iterate 2 refine GX.skip rfl rfl ?_
     refine GX.q (.bool false) ?_
     refine GX.m rfl ?_
     iterate 3 refine GX.skip rfl rfl ?_
     refine GX.q (.bool false) ?_
     refine GX.m rfl ?_
     refine GX.done ?_
     refine WK.ret ?_
     obtain rfl := Option.some.inj hR
     exact RetQ.fr [] (.inr rfl) rfl rfl rfl rfl
    ·rw [hb4]; first | replace hR := cond_t hb4 hR | (try simp only [hb4, bb] at hR)
     refine GX.q (.ptr 2 2) ?_
     refine GX.q (.int .i64 c42a.Phase) ?_
     iterate 2 refine GX.q (.bool (decide (c42a.Phase = 1))) ?_
     refine GX.m rfl ?_
     rcases bool_two (decide (c42a.Phase = 1)) with hb5 | hb5
     ·rw [hb5]; first | replace hR := cond_f hb5 hR | (try simp only [hb5, bb] at hR)
      iterate 2 refine GX.skip rfl rfl ?_
      refine GX.q (.bool false) ?_
      refine GX.m rfl ?_
      iterate 3 refine GX.skip rfl rfl ?_
      refine GX.q (.bool false) ?_
      refine GX.m rfl ?_
      refine GX.done ?_
      refine WK.ret ?_
      obtain rfl := Option.some.inj hR
      exact RetQ.fr [] (.inr rfl) rfl rfl rfl rfl
     ·rw [hb5]; first | replace hR := cond_t hb5 hR | (try simp only [hb5, bb] at hR)
      refine GX.q (.ptr 2 3) ?_
      iterate 2 refine GX.q (.bool c42a.Leads) ?_
      refine GX.m rfl ?_
      rcases bool_two (c42a.Leads) with hb6 | hb6
      ·rw [hb6]; first | replace hR := cond_f hb6 hR | (try simp only [hb6, bb] at hR)
       iterate 3 refine GX.skip rfl rfl ?_
       refine GX.q (.bool false) ?_
       refine GX.m rfl ?_
       refine GX.done ?_
       refine WK.ret ?_
       obtain rfl := Option.some.inj hR
       exact RetQ.fr [] (.inr rfl) rfl rfl rfl rfl
      ·rw [hb6]; first | replace hR := cond_t hb6 hR | (try simp only [hb6, bb] at hR)
       refine GX.q (.ptr 4 5) ?_
       refine GX.q (.int .u32 c26b.Seq) ?_
       iterate 2 refine GX.q (.bool (decide (c26b.Seq = 7))) ?_
       refine GX.m rfl ?_
       refine GX.done ?_
       refine WK.ret ?_
       obtain rfl := Option.some.inj hR
       exact RetQ.fr [] (.inr rfl) rfl rfl rfl rfl
  ·rw [hb2]; first | replace hR := cond_t hb2 hR | (try simp only [hb2, bb] at hR)
   iterate 2 refine GX.skip rfl rfl ?_
   refine GX.q (.bool false) ?_
   refine GX.m rfl ?_
   iterate 3 refine GX.skip rfl rfl ?_
   refine GX.q (.bool false) ?_
   refine GX.m rfl ?_
   iterate 3 refine GX.skip rfl rfl ?_
   refine GX.q (.bool false) ?_
   refine GX.m rfl ?_
   iterate 2 refine GX.skip rfl rfl ?_
   refine GX.q (.bool false) ?_
   refine GX.m rfl ?_
   iterate 3 refine GX.skip rfl rfl ?_
   refine GX.q (.bool false) ?_
   refine GX.m rfl ?_
   refine GX.done ?_
   refine WK.ret ?_
   obtain rfl := Option.some.inj hR
   exact RetQ.fr [] (.inr rfl) rfl rfl rfl rfl

theorem f33_ok (x0 : TEnd) (again1 : Bool) (R : TDesc × Bool × TEnd) (hR : F33_exch_end_next x0 again1 = some R) : FnOk Try.prog 33 [.ptr 0 0, .bool again1] [(0, .box [.int .u32 x0.s.Own, .int .u32 x0.s.Peer, .int .i64 x0.s.Phase, .bool x0.s.Leads, .int .u32 x0.s.Seq, .ro 8 (x0.s.Left.map THeader.c), .ro 8 (x0.s.Got.map THeader.c), .int .i64 x0.s.Last.MTU, .int .i64 x0.s.Last.Options, .bool x0.s.Last.Init, .bool x0.s.Last.More, .bool x0.s.Last.Master, .int .u32 x0.s.Last.Seq, .ro 8 (x0.s.Last.Heads.map THeader.c), .own 1 7 0 x0.waits.length]), (1, .row 7 29 (x0.waits.map TDesc.c))] 2 (.tup [.agg (TDesc.c R.1), .bool R.2.1]) [(0, .box [.int .u32 R.2.2.s.Own, .int .u32 R.2.2.s.Peer, .int .i64 R.2.2.s.Phase, .bool R.2.2.s.Leads, .int .u32 R.2.2.s.Seq, .ro 8 (R.2.2.s.Left.map THeader.c), .ro 8 (R.2.2.s.Got.map THeader.c), .int .i64 R.2.2.s.Last.MTU, .int .i64 R.2.2.s.Last.Options, .bool R.2.2.s.Last.Init, .bool R.2.2.s.Last.More, .bool R.2.2.s.Last.Master, .int .u32 R.2.2.s.Last.Seq, .ro 8 (R.2.2.s.Last.Heads.map THeader.c), .own 2 7 0 R.2.2.waits.length]), (2, .row 7 29 (R.2.2.waits.map TDesc.c))] 3 := by
 refine FnOk.wk i33 rfl rfl ?_
 unfold F33_exch_end_next at hR
 try dsimp only at hR
 change WK _ _ _ [ac33] _ ⟨[(0, .ptr 0 0), (1, .bool again1)], [(0, .box [.int .u32 x0.s.Own, .int .u32 x0.s.Peer, .int .i64 x0.s.Phase, .bool x0.s.Leads, .int .u32 x0.s.Seq, .ro 8 (x0.s.Left.map THeader.c), .ro 8 (x0.s.Got.map THeader.c), .int .i64 x0.s.Last.MTU, .int .i64 x0.s.Last.Options, .bool x0.s.Last.Init, .bool x0.s.Last.More, .bool x0.s.Last.Master, .int .u32 x0.s.Last.Seq, .ro 8 (x0.s.Last.Heads.map THeader.c), .own 1 7 0 x0.waits.length]), (1, .row 7 29 (x0.waits.map TDesc.c))], 2⟩
 unfold ac33
 refine WK.mvB (id := 0) (j := 14) (heap' := [(0, .box [.int .u32 x0.s.Own, .int .u32 x0.s.Peer, .int .i64 x0.s.Phase, .bool x0.s.Leads, .int .u32 x0.s.Seq, .ro 8 (x0.s.Left.map THeader.c), .ro 8 (x0.s.Got.map THeader.c), .int .i64 x0.s.Last.MTU, .int .i64 x0.s.Last.Options, .bool x0.s.Last.Init, .bool x0.s.Last.More, .bool x0.s.Last.Master, .int .u32 x0.s.Last.Seq, .ro 8 (x0.s.Last.Heads.map THeader.c), .own 2 7 0 x0.waits.length]), (2, .row 7 29 (x0.waits.map TDesc.c))]) rfl rfl rfl (by simp) rfl ?_
 refine WK.sr mixed ?_
 refine GX.step (v' := .ptr 3 0) (heap' := [(0, .box [.int .u32 x0.s.Own, .int .u32 x0.s.Peer, .int .i64 x0.s.Phase, .bool x0.s.Leads, .int .u32 x0.s.Seq, .ro 8 (x0.s.Left.map THeader.c), .ro 8 (x0.s.Got.map THeader.c), .int .i64 x0.s.Last.MTU, .int .i64 x0.s.Last.Options, .bool x0.s.Last.Init, .bool x0.s.Last.More, .bool x0.s.Last.Master, .int .u32 x0.s.Last.Seq, .ro 8 (x0.s.Last.Heads.map THeader.c), .own 2 7 0 x0.waits.length]), (2, .row 7 29 (x0.waits.map TDesc.c)), (3, .box [.int .i64 0, .int .i64 0, .bool false, .bool false, .bool false, .int .u32 0, .nils])]) (next' := 4) rfl rfl rfl rfl rfl rfl rfl ?_
 refine GX.m rfl ?_
 refine GX.done ?_
 refine WK.seq ?_
 refine WK.sr mixed ?_
 refine GX.m rfl ?_
 refine GX.q (.ptr 0 0) ?_
 refine GX.q (.ptr 0 14) ?_
 refine GX.q (.own 2 7 0 x0.waits.length) ?_
 refine GX.q (.int .i64 (x0.waits.length : Int)) ?_
 refine GX.q (.bool (decide ((x0.waits.length : Int) = 0))) ?_
 refine GX.done ?_
 rcases bool_two (decide ((x0.waits.length : Int) = 0)) with hb1 | hb1
 ·rw [hb1]; first | replace hR := cond_f hb1 hR | (try simp only [hb1, bb] at hR)
  refine WK.condF rfl ?_
  refine WK.skip ?_
  refine WK.sr mixed ?_
  refine GX.m rfl ?_
  refine GX.q (.ptr 0 0) ?_
  refine GX.q (.ptr 0 14) ?_
  refine GX.q (.own 2 7 0 x0.waits.length) ?_
  generalize hx901 : getI x0.waits 0 = x901 at hR
  rcases x901 with _ | x901
  ·try dsimp only at hR
   cases hR
  try dsimp only at hR
  obtain ⟨hx9010, hx901j, hx901l, hx901⟩ := getI_some hx901
  refine GX.pure (v' := .eptr 2 7 0 0) rfl rfl rfl (core_idxoT (c := TDesc.c) (L := x0.waits) (j := 0) rfl hx901j hx901l (by exact Nat.le_refl _)) rfl ?_
  refine GX.pure (v' := .agg (TDesc.c x901)) rfl rfl rfl (core_loaT (c := TDesc.c) (L := x0.waits) (x := x901) rfl hx901 rfl) rfl ?_
  refine GX.step (v' := .ptr 4 0) (heap' := [(0, .box [.int .u32 x0.s.Own, .int .u32 x0.s.Peer, .int .i64 x0.s.Phase, .bool x0.s.Leads, .int .u32 x0.s.Seq, .ro 8 (x0.s.Left.map THeader.c), .ro 8 (x0.s.Got.map THeader.c), .int .i64 x0.s.Last.MTU, .int .i64 x0.s.Last.Options, .bool x0.s.Last.Init, .bool x0.s.Last.More, .bool x0.s.Last.Master, .int .u32 x0.s.Last.Seq, .ro 8 (x0.s.Last.Heads.map THeader.c), .own 2 7 0 x0.waits.length]), (2, .row 7 29 (x0.waits.map TDesc.c)), (3, .box [.int .i64 0, .int .i64 0, .bool false, .bool false, .bool false, .int .u32 0, .nils]), (4, .box [.int .i64 0, .int .i64 0, .bool false, .bool false, .bool false, .int .u32 0, .nils])]) (next' := 5) rfl rfl rfl rfl rfl rfl rfl ?_
  refine GX.step0 (heap' := [(0, .box [.int .u32 x0.s.Own, .int .u32 x0.s.Peer, .int .i64 x0.s.Phase, .bool x0.s.Leads, .int .u32 x0.s.Seq, .ro 8 (x0.s.Left.map THeader.c), .ro 8 (x0.s.Got.map THeader.c), .int .i64 x0.s.Last.MTU, .int .i64 x0.s.Last.Options, .bool x0.s.Last.Init, .bool x0.s.Last.More, .bool x0.s.Last.Master, .int .u32 x0.s.Last.Seq, .ro 8 (x0.s.Last.Heads.map THeader.c), .own 2 7 0 x0.waits.length]), (2, .row 7 29 (x0.waits.map TDesc.c)), (3, .box [.int .i64 0, .int .i64 0, .bool false, .bool false, .bool false, .int .u32 0, .nils]), (4, .box (TDesc.c x901))]) (next' := 5) rfl rfl rfl rfl rfl ?_
  refine GX.done ?_
  refine WK.sr mixed ?_
  iterate 2 refine GX.m rfl ?_
  refine GX.q (.ptr 0 0) ?_
  refine GX.q (.ptr 0 14) ?_
  refine GX.q (.own 2 7 0 x0.waits.length) ?_
  rcases bool_two (decide ((1 : Int) ≤ (x0.waits.length : Int))) with hg3 | hg3
  ·simp only [hg3, bb] at hR
   try dsimp only at hR
   cases hR
  simp only [hg3, bb] at hR
  have hg3_ := of_decide_eq_true hg3
  refine GX.pure (v' := .own 2 7 1 (x0.waits.length - 1)) rfl rfl rfl (core_sliceRlo (c := TDesc.c) (L := x0.waits) 1 rfl rfl (by omega) rfl) rfl ?_
  refine GX.q (.ptr 0 0) ?_
  refine GX.q (.ptr 0 14) ?_
  refine GX.step0 (heap' := [(0, .box [.int .u32 x0.s.Own, .int .u32 x0.s.Peer, .int .i64 x0.s.Phase, .bool x0.s.Leads, .int .u32 x0.s.Seq, .ro 8 (x0.s.Left.map THeader.c), .ro 8 (x0.s.Got.map THeader.c), .int .i64 x0.s.Last.MTU, .int .i64 x0.s.Last.Options, .bool x0.s.Last.Init, .bool x0.s.Last.More, .bool x0.s.Last.Master, .int .u32 x0.s.Last.Seq, .ro 8 (x0.s.Last.Heads.map THeader.c), .own 2 7 1 (x0.waits.length - 1)]), (2, .row 7 29 (x0.waits.map TDesc.c)), (3, .box [.int .i64 0, .int .i64 0, .bool false, .bool false, .bool false, .int .u32 0, .nils]), (4, .box (TDesc.c x901))]) (next' := 5) rfl rfl rfl rfl rfl ?_
  refine GX.done ?_
  refine WK.rbBT (c := TDesc.c) (L := x0.waits) (id := 0) (j := 14) (lo := 1) (heap' := [(0, .box [.int .u32 x0.s.Own, .int .u32 x0.s.Peer, .int .i64 x0.s.Phase, .bool x0.s.Leads, .int .u32 x0.s.Seq, .ro 8 (x0.s.Left.map THeader.c), .ro 8 (x0.s.Got.map THeader.c), .int .i64 x0.s.Last.MTU, .int .i64 x0.s.Last.Options, .bool x0.s.Last.Init, .bool x0.s.Last.More, .bool x0.s.Last.Master, .int .u32 x0.s.Last.Seq, .ro 8 (x0.s.Last.Heads.map THeader.c), .own 5 7 0 (x0.waits.drop 1).length]), (3, .box [.int .i64 0, .int .i64 0, .bool false, .bool false, .bool false, .int .u32 0, .nils]), (4, .box (TDesc.c x901)), (5, .row 7 29 ((x0.waits.drop 1).map TDesc.c))]) rfl rfl rfl (by omega) (by simp) (by simp) rfl ?_
  refine WK.seq ?_
  refine WK.sr mixed ?_
  refine GX.m rfl ?_
  refine GX.done ?_
  rcases bool_two (again1) with hb4 | hb4
  ·rw [hb4]; first | replace hR := cond_f hb4 hR | (try simp only [hb4, bb] at hR)
   refine WK.condF rfl ?_
   refine WK.skip ?_
   refine WK.sr mixed ?_
   refine GX.q (.agg (TDesc.c x901)) ?_
   refine GX.step0 (heap' := [(0, .box [.int .u32 x0.s.Own, .int .u32 x0.s.Peer, .int .i64 x0.s.Phase, .bool x0.s.Leads, .int .u32 x0.s.Seq, .ro 8 (x0.s.Left.map THeader.c), .ro 8 (x0.s.Got.map THeader.c), .int .i64 x0.s.Last.MTU, .int .i64 x0.s.Last.Options, .bool x0.s.Last.Init, .bool x0.s.Last.More, .bool x0.s.Last.Master, .int .u32 x0.s.Last.Seq, .ro 8 (x0.s.Last.Heads.map THeader.c), .own 5 7 0 (x0.waits.drop 1).length]), (3, .box (TDesc.c x901)), (4, .box (TDesc.c x901)), (5, .row 7 29 ((x0.waits.drop 1).map TDesc.c))]) (next' := 6) rfl rfl rfl rfl rfl ?_
   refine GX.m rfl ?_
   refine GX.done ?_
   refine WK.ret ?_
   obtain rfl := Option.some.inj hR
   exact RetQ.ret [0, 1, 5] [] (.inr rfl) rfl rfl rfl rfl rfl .refl rfl
  ·rw [hb4]; first | replace hR := cond_t hb4 hR | (try simp only [hb4, bb] at hR)
   refine WK.condT rfl ?_
   refine WK.drawn mixed ?_
   iterate 2 refine RD.m rfl ?_
   refine RD.q (.ptr 0 0) ?_
   refine RD.q (.ptr 0 14) ?_
   refine RD.q (.own 5 7 0 (x0.waits.drop 1).length) ?_
   refine RD.q (.agg (TDesc.c x901)) ?_
   refine RD.step (v' := .own 6 7 0 (([x901] : List TDesc)).length) (heap' := [(0, .box [.int .u32 x0.s.Own, .int .u32 x0.s.Peer, .int .i64 x0.s.Phase, .bool x0.s.Leads, .int .u32 x0.s.Seq, .ro 8 (x0.s.Left.map THeader.c), .ro 8 (x0.s.Got.map THeader.c), .int .i64 x0.s.Last.MTU, .int .i64 x0.s.Last.Options, .bool x0.s.Last.Init, .bool x0.s.Last.More, .bool x0.s.Last.Master, .int .u32 x0.s.Last.Seq, .ro 8 (x0.s.Last.Heads.map THeader.c), .own 5 7 0 (x0.waits.drop 1).length]), (3, .box [.int .i64 0, .int .i64 0, .bool false, .bool false, .bool false, .int .u32 0, .nils]), (4, .box (TDesc.c x901)), (5, .row 7 29 ((x0.waits.drop 1).map TDesc.c)), (6, .row 7 29 (([x901] : List TDesc).map TDesc.c))]) (next' := 7) rfl rfl rfl rfl rfl rfl rfl ?_
   rcases bool_two (decide ((x0.waits.drop 1).length < 1099511627776)) with hg5 | hg5
   ·simp only [hg5, bb] at hR
    try dsimp only at hR
    cases hR
   simp only [hg5, bb] at hR
   have hg5_ := of_decide_eq_true hg5
   refine RD.appT (c := TDesc.c) (L := (x0.waits.drop 1)) (X := ([x901] : List TDesc)) (heap' := [(0, .box [.int .u32 x0.s.Own, .int .u32 x0.s.Peer, .int .i64 x0.s.Phase, .bool x0.s.Leads, .int .u32 x0.s.Seq, .ro 8 (x0.s.Left.map THeader.c), .ro 8 (x0.s.Got.map THeader.c), .int .i64 x0.s.Last.MTU, .int .i64 x0.s.Last.Options, .bool x0.s.Last.Init, .bool x0.s.Last.More, .bool x0.s.Last.Master, .int .u32 x0.s.Last.Seq, .ro 8 (x0.s.Last.Heads.map THeader.c), .own 5 7 0 (x0.waits.drop 1).length]), (3, .box [.int .i64 0, .int .i64 0, .bool false, .bool false, .bool false, .int .u32 0, .nils]), (4, .box (TDesc.c x901)), (6, .row 7 29 (([x901] : List TDesc).map TDesc.c)), (7, .row 7 29 (((x0.waits.drop 1) ++ ([x901] : List TDesc)).map TDesc.c))]) (next' := 8) rfl rfl rfl rfl (elems_own rfl) (by ((try simp only [List.length_append, List.length_cons, List.length_nil, List.length_map, decide_eq_true_eq, decide_eq_false_iff_not] at *) <;> omega)) (by ((try simp only [List.length_append, List.length_cons, List.length_nil, List.length_map, decide_eq_true_eq, decide_eq_false_iff_not] at *) <;> omega)) rfl rfl rfl rfl ?_
   refine RD.q (.ptr 0 0) ?_
   refine RD.q (.ptr 0 14) ?_
   refine RD.step0 (heap' := [(0, .box [.int .u32 x0.s.Own, .int .u32 x0.s.Peer, .int .i64 x0.s.Phase, .bool x0.s.Leads, .int .u32 x0.s.Seq, .ro 8 (x0.s.Left.map THeader.c), .ro 8 (x0.s.Got.map THeader.c), .int .i64 x0.s.Last.MTU, .int .i64 x0.s.Last.Options, .bool x0.s.Last.Init, .bool x0.s.Last.More, .bool x0.s.Last.Master, .int .u32 x0.s.Last.Seq, .ro 8 (x0.s.Last.Heads.map THeader.c), .own 7 7 0 ((x0.waits.drop 1) ++ ([x901] : List TDesc)).length]), (3, .box [.int .i64 0, .int .i64 0, .bool false, .bool false, .bool false, .int .u32 0, .nils]), (4, .box (TDesc.c x901)), (6, .row 7 29 (([x901] : List TDesc).map TDesc.c)), (7, .row 7 29 (((x0.waits.drop 1) ++ ([x901] : List TDesc)).map TDesc.c))]) (next' := 8) rfl rfl rfl rfl rfl ?_
   refine RD.done rfl ?_
   refine WK.sr mixed ?_
   refine GX.q (.agg (TDesc.c x901)) ?_
   refine GX.step0 (heap' := [(0, .box [.int .u32 x0.s.Own, .int .u32 x0.s.Peer, .int .i64 x0.s.Phase, .bool x0.s.Leads, .int .u32 x0.s.Seq, .ro 8 (x0.s.Left.map THeader.c), .ro 8 (x0.s.Got.map THeader.c), .int .i64 x0.s.Last.MTU, .int .i64 x0.s.Last.Options, .bool x0.s.Last.Init, .bool x0.s.Last.More, .bool x0.s.Last.Master, .int .u32 x0.s.Last.Seq, .ro 8 (x0.s.Last.Heads.map THeader.c), .own 7 7 0 ((x0.waits.drop 1) ++ ([x901] : List TDesc)).length]), (3, .box (TDesc.c x901)), (4, .box (TDesc.c x901)), (6, .row 7 29 (([x901] : List TDesc).map TDesc.c)), (7, .row 7 29 (((x0.waits.drop 1) ++ ([x901] : List TDesc)).map TDesc.c))]) (next' := 8) rfl rfl rfl rfl rfl ?_
   refine GX.m rfl ?_
   refine GX.done ?_
   refine WK.ret ?_
   obtain rfl := Option.some.inj hR
   exact RetQ.ret [0, 1, 7] [] (.inr rfl) rfl rfl rfl rfl rfl .refl rfl
 ·rw [hb1]; first | replace hR := cond_t hb1 hR | (try simp only [hb1, bb] at hR)
  refine WK.condT rfl ?_
  refine WK.sr mixed ?_
  refine GX.q (.agg [.int .i64 0, .int .i64 0, .bool false, .bool false, .bool false, .int .u32 0, .nils]) ?_
  refine GX.step0 (heap' := [(0, .box [.int .u32 x0.s.Own, .int .u32 x0.s.Peer, .int .i64 x0.s.Phase, .bool x0.s.Leads, .int .u32 x0.s.Seq, .ro 8 (x0.s.Left.map THeader.c), .ro 8 (x0.s.Got.map THeader.c), .int .i64 x0.s.Last.MTU, .int .i64 x0.s.Last.Options, .bool x0.s.Last.Init, .bool x0.s.Last.More, .bool x0.s.Last.Master, .int .u32 x0.s.Last.Seq, .ro 8 (x0.s.Last.Heads.map THeader.c), .own 2 7 0 x0.waits.length]), (2, .row 7 29 (x0.waits.map TDesc.c)), (3, .box [.int .i64 0, .int .i64 0, .bool false, .bool false, .bool false, .int .u32 0, .nils])]) (next' := 4) rfl rfl rfl rfl rfl ?_
  refine GX.m rfl ?_
  refine GX.done ?_
  refine WK.ret ?_
  obtain rfl := Option.some.inj hR
  exact RetQ.ret [0, 1, 2] [] (.inr rfl) rfl rfl rfl rfl rfl (.tup (.cons (.agg (.cons .refl (.cons .refl (.cons .refl (.cons .refl (.cons .refl (.cons .refl (.cons .nil .refl)))))))) .refl)) rfl

theorem f32_ok (x0 : TEnd) (other1 : TEnd) (again2 : Bool) (R : TEnd × TEnd) (hR : F32_exch_end_hear x0 other1 again2 = some R) : FnOk Try.prog 32 [.ptr 0 0, .ptr 1 0, .bool again2] [(0, .box [.int .u32 x0.s.Own, .int .u32 x0.s.Peer, .int .i64 x0.s.Phase, .bool x0.s.Leads, .int .u32 x0.s.Seq, .ro 8 (x0.s.Left.map THeader.c), .ro 8 (x0.s.Got.map THeader.c), .int .i64 x0.s.Last.MTU, .int .i64 x0.s.Last.Options, .bool x0.s.Last.Init, .bool x0.s.Last.More, .bool x0.s.Last.Master, .int .u32 x0.s.Last.Seq, .ro 8 (x0.s.Last.Heads.map THeader.c), .own 2 7 0 x0.waits.length]), (1, .box [.int .u32 other1.s.Own, .int .u32 other1.s.Peer, .int .i64 other1.s.Phase, .bool other1.s.Leads, .int .u32 other1.s.Seq, .ro 8 (other1.s.Left.map THeader.c), .ro 8 (other1.s.Got.map THeader.c), .int .i64 other1.s.Last.MTU, .int .i64 other1.s.Last.Options, .bool other1.s.Last.Init, .bool other1.s.Last.More, .bool other1.s.Last.Master, .int .u32 other1.s.Last.Seq, .ro 8 (other1.s.Last.Heads.map THeader.c), .own 3 7 0 other1.waits.length]), (2, .row 7 29 (x0.waits.map TDesc.c)), (3, .row 7 29 (other1.waits.map TDesc.c))] 4 (.tup []) [(0, .box [.int .u32 R.1.s.Own, .int .u32 R.1.s.Peer, .int .i64 R.1.s.Phase, .bool R.1.s.Leads, .int .u32 R.1.s.Seq, .ro 8 (R.1.s.Left.map THeader.c), .ro 8 (R.1.s.Got.map THeader.c), .int .i64 R.1.s.Last.MTU, .int .i64 R.1.s.Last.Options, .bool R.1.s.Last.Init, .bool R.1.s.Last.More, .bool R.1.s.Last.Master, .int .u32 R.1.s.Last.Seq, .ro 8 (R.1.s.Last.Heads.map THeader.c), .own 4 7 0 R.1.waits.length]), (1, .box [.int .u32 R.2.s.Own, .int .u32 R.2.s.Peer, .int .i64 R.2.s.Phase, .bool R.2.s.Leads, .int .u32 R.2.s.Seq, .ro 8 (R.2.s.Left.map THeader.c), .ro 8 (R.2.s.Got.map THeader.c), .int .i64 R.2.s.Last.MTU, .int .i64 R.2.s.Last.Options, .bool R.2.s.Last.Init, .bool R.2.s.Last.More, .bool R.2.s.Last.Master, .int .u32 R.2.s.Last.Seq, .ro 8 (R.2.s.Last.Heads.map THeader.c), .own 5 7 0 R.2.waits.length]), (4, .row 7 29 (R.1.waits.map TDesc.c)), (5, .row 7 29 (R.2.waits.map TDesc.c))] 6 := by
 refine FnOk.wk i32 rfl rfl ?_
 unfold F32_exch_end_hear at hR
 try dsimp only at hR
 change WK _ _ _ [ac32] _ ⟨[(0, .ptr 0 0), (1, .ptr 1 0), (2, .bool again2)], [(0, .box [.int .u32 x0.s.Own, .int .u32 x0.s.Peer, .int .i64 x0.s.Phase, .bool x0.s.Leads, .int .u32 x0.s.Seq, .ro 8 (x0.s.Left.map THeader.c), .ro 8 (x0.s.Got.map THeader.c), .int .i64 x0.s.Last.MTU, .int .i64 x0.s.Last.Options, .bool x0.s.Last.Init, .bool x0.s.Last.More, .bool x0.s.Last.Master, .int .u32 x0.s.Last.Seq, .ro 8 (x0.s.Last.Heads.map THeader.c), .own 2 7 0 x0.waits.length]), (1, .box [.int .u32 other1.s.Own, .int .u32 other1.s.Peer, .int .i64 other1.s.Phase, .bool other1.s.Leads, .int .u32 other1.s.Seq, .ro 8 (other1.s.Left.map THeader.c), .ro 8 (other1.s.Got.map THeader.c), .int .i64 other1.s.Last.MTU, .int .i64 other1.s.Last.Options, .bool other1.s.Last.Init, .bool other1.s.Last.More, .bool other1.s.Last.Master, .int .u32 other1.s.Last.Seq, .ro 8 (other1.s.Last.Heads.map THeader.c), .own 3 7 0 other1.waits.length]), (2, .row 7 29 (x0.waits.map TDesc.c)), (3, .row 7 29 (other1.waits.map TDesc.c))], 4⟩
 unfold ac32
 refine WK.mvB (id := 0) (j := 14) (heap' := [(0, .box [.int .u32 x0.s.Own, .int .u32 x0.s.Peer, .int .i64 x0.s.Phase, .bool x0.s.Leads, .int .u32 x0.s.Seq, .ro 8 (x0.s.Left.map THeader.c), .ro 8 (x0.s.Got.map THeader.c), .int .i64 x0.s.Last.MTU, .int .i64 x0.s.Last.Options, .bool x0.s.Last.Init, .bool x0.s.Last.More, .bool x0.s.Last.Master, .int .u32 x0.s.Last.Seq, .ro 8 (x0.s.Last.Heads.map THeader.c), .own 4 7 0 x0.waits.length]), (1, .box [.int .u32 other1.s.Own, .int .u32 other1.s.Peer, .int .i64 other1.s.Phase, .bool other1.s.Leads, .int .u32 other1.s.Seq, .ro 8 (other1.s.Left.map THeader.c), .ro 8 (other1.s.Got.map THeader.c), .int .i64 other1.s.Last.MTU, .int .i64 other1.s.Last.Options, .bool other1.s.Last.Init, .bool other1.s.Last.More, .bool other1.s.Last.Master, .int .u32 other1.s.Last.Seq, .ro 8 (other1.s.Last.Heads.map THeader.c), .own 3 7 0 other1.waits.length]), (3, .row 7 29 (other1.waits.map TDesc.c)), (4, .row 7 29 (x0.waits.map TDesc.c))]) rfl rfl rfl (by simp) rfl ?_
 refine WK.mvB (id := 1) (j := 14) (heap' := [(0, .box [.int .u32 x0.s.Own, .int .u32 x0.s.Peer, .int .i64 x0.s.Phase, .bool x0.s.Leads, .int .u32 x0.s.Seq, .ro 8 (x0.s.Left.map THeader.c), .ro 8 (x0.s.Got.map THeader.c), .int .i64 x0.s.Last.MTU, .int .i64 x0.s.Last.Options, .bool x0.s.Last.Init, .bool x0.s.Last.More, .bool x0.s.Last.Master, .int .u32 x0.s.Last.Seq, .ro 8 (x0.s.Last.Heads.map THeader.c), .own 4 7 0 x0.waits.length]), (1, .box [.int .u32 other1.s.Own, .int .u32 other1.s.Peer, .int .i64 other1.s.Phase, .bool other1.s.Leads, .int .u32 other1.s.Seq, .ro 8 (other1.s.Left.map THeader.c), .ro 8 (other1.s.Got.map THeader.c), .int .i64 other1.s.Last.MTU, .int .i64 other1.s.Last.Options, .bool other1.s.Last.Init, .bool other1.s.Last.More, .bool other1.s.Last.Master, .int .u32 other1.s.Last.Seq, .ro 8 (other1.s.Last.Heads.map THeader.c), .own 5 7 0 other1.waits.length]), (4, .row 7 29 (x0.waits.map TDesc.c)), (5, .row 7 29 (other1.waits.map TDesc.c))]) rfl rfl rfl (by simp) rfl ?_
 refine WK.sr mixed ?_
 iterate 2 refine GX.m rfl ?_
 generalize hc15 : F33_exch_end_next x0 again2 = c15 at hR
 rcases c15 with _ | c15
 ·try dsimp only at hR
  cases hR
 try dsimp only at hR
 obtain ⟨c15a, c15b, c15c⟩ := c15; try dsimp only at hR
 refine GX.callx (r' := .tup [.agg (TDesc.c c15a), .bool c15b]) (heap' := [(0, .box [.int .u32 c15c.s.Own, .int .u32 c15c.s.Peer, .int .i64 c15c.s.Phase, .bool c15c.s.Leads, .int .u32 c15c.s.Seq, .ro 8 (c15c.s.Left.map THeader.c), .ro 8 (c15c.s.Got.map THeader.c), .int .i64 c15c.s.Last.MTU, .int .i64 c15c.s.Last.Options, .bool c15c.s.Last.Init, .bool c15c.s.Last.More, .bool c15c.s.Last.Master, .int .u32 c15c.s.Last.Seq, .ro 8 (c15c.s.Last.Heads.map THeader.c), .own 6 7 0 c15c.waits.length]), (1, .box [.int .u32 other1.s.Own, .int .u32 other1.s.Peer, .int .i64 other1.s.Phase, .bool other1.s.Leads, .int .u32 other1.s.Seq, .ro 8 (other1.s.Left.map THeader.c), .ro 8 (other1.s.Got.map THeader.c), .int .i64 other1.s.Last.MTU, .int .i64 other1.s.Last.Options, .bool other1.s.Last.Init, .bool other1.s.Last.More, .bool other1.s.Last.Master, .int .u32 other1.s.Last.Seq, .ro 8 (other1.s.Last.Heads.map THeader.c), .own 5 7 0 other1.waits.length]), (5, .row 7 29 (other1.waits.map TDesc.c)), (6, .row 7 29 (c15c.waits.map TDesc.c))]) (next' := 7) [0, 4] [] rfl rfl rfl rfl rfl rfl (f33_ok x0 again2 _ hc15) (.inl rfl) rfl rfl rfl ?_
 refine GX.m rfl ?_
 refine GX.q (.agg (TDesc.c c15a)) ?_
 refine GX.q (.bool c15b) ?_
 refine GX.step (v' := .ptr 7 0) (heap' := [(0, .box [.int .u32 c15c.s.Own, .int .u32 c15c.s.Peer, .int .i64 c15c.s.Phase, .bool c15c.s.Leads, .int .u32 c15c.s.Seq, .ro 8 (c15c.s.Left.map THeader.c), .ro 8 (c15c.s.Got.map THeader.c), .int .i64 c15c.s.Last.MTU, .int .i64 c15c.s.Last.Options, .bool c15c.s.Last.Init, .bool c15c.s.Last.More, .bool c15c.s.Last.Master, .int .u32 c15c.s.Last.Seq, .ro 8 (c15c.s.Last.Heads.map THeader.c), .own 6 7 0 c15c.waits.length]), (1, .box [.int .u32 other1.s.Own, .int .u32 other1.s.Peer, .int .i64 other1.s.Phase, .bool other1.s.Leads, .int .u32 other1.s.Seq, .ro 8 (other1.s.Left.map THeader.c), .ro 8 (other1.s.Got.map THeader.c), .int .i64 other1.s.Last.MTU, .int .i64 other1.s.Last.Options, .bool other1.s.Last.Init, .bool other1.s.Last.More, .bool other1.s.Last.Master, .int .u32 other1.s.Last.Seq, .ro 8 (other1.s.Last.Heads.map THeader.c), .own 5 7 0 other1.waits.length]), (5, .row 7 29 (other1.waits.map TDesc.c)), (6, .row 7 29 (c15c.waits.map TDesc.c)), (7, .box [.int .i64 0, .int .i64 0, .bool false, .bool false, .bool false, .int .u32 0, .nils])]) (next' := 8) rfl rfl rfl rfl rfl rfl rfl ?_
 refine GX.step0 (heap' := [(0, .box [.int .u32 c15c.s.Own, .int .u32 c15c.s.Peer, .int .i64 c15c.s.Phase, .bool c15c.s.Leads, .int .u32 c15c.s.Seq, .ro 8 (c15c.s.Left.map THeader.c), .ro 8 (c15c.s.Got.map THeader.c), .int .i64 c15c.s.Last.MTU, .int .i64 c15c.s.Last.Options, .bool c15c.s.Last.Init, .bool c15c.s.Last.More, .bool c15c.s.Last.Master, .int .u32 c15c.s.Last.Seq, .ro 8 (c15c.s.Last.Heads.map THeader.c), .own 6 7 0 c15c.waits.length]), (1, .box [.int .u32 other1.s.Own, .int .u32 other1.s.Peer, .int .i64 other1.s.Phase, .bool other1.s.Leads, .int .u32 other1.s.Seq, .ro 8 (other1.s.Left.map THeader.c), .ro 8 (other1.s.Got.map THeader.c), .int .i64 other1.s.Last.MTU, .int .i64 other1.s.Last.Options, .bool other1.s.Last.Init, .bool other1.s.Last.More, .bool other1.s.Last.Master, .int .u32 other1.s.Last.Seq, .ro 8 (other1.s.Last.Heads.map THeader.c), .own 5 7 0 other1.waits.length]), (5, .row 7 29 (other1.waits.map TDesc.c)), (6, .row 7 29 (c15c.waits.map TDesc.c)), (7, .box (TDesc.c c15a))]) (next' := 8) rfl rfl rfl rfl rfl ?_
 refine GX.m rfl ?_
 refine GX.done ?_
 refine WK.seq ?_
 refine WK.sr mixed ?_
 refine GX.m rfl ?_
 refine GX.q (.bool (!c15b)) ?_
 refine GX.done ?_
 rcases bool_two (c15b) with hb2 | hb2
 ·rw [hb2]; first | replace hR := cond_f hb2 hR | (try simp only [hb2, bb] at hR)
  refine WK.condT rfl ?_
  refine WK.ret ?_
  obtain rfl := Option.some.inj hR
  exact RetQ.ret [0, 1, 2, 3, 6, 5] [] (.inr rfl) rfl rfl rfl rfl rfl .refl rfl
 ·rw [hb2]; first | replace hR := cond_t hb2 hR | (try simp only [hb2, bb] at hR)
  refine WK.condF rfl ?_
  refine WK.skip ?_
  refine WK.seq ?_
  refine WK.drawn mixed ?_
  refine RD.m rfl ?_
  iterate 2 refine RD.q (.ptr 0 0) ?_
  refine RD.q (.agg [.int .u32 c15c.s.Own, .int .u32 c15c.s.Peer, .int .i64 c15c.s.Phase, .bool c15c.s.Leads, .int .u32 c15c.s.Seq, .ro 8 (c15c.s.Left.map THeader.c), .ro 8 (c15c.s.Got.map THeader.c), .int .i64 c15c.s.Last.MTU, .int .i64 c15c.s.Last.Options, .bool c15c.s.Last.Init, .bool c15c.s.Last.More, .bool c15c.s.Last.Master, .int .u32 c15c.s.Last.Seq, .ro 8 (c15c.s.Last.Heads.map THeader.c)]) ?_
  refine RD.q (.agg (TDesc.c c15a)) ?_
  generalize hc26 : F15_exch_Hear c15c.s c15a = c26 at hR
  rcases c26 with _ | c26
  ·try dsimp only at hR
   cases hR
  try dsimp only at hR
  obtain ⟨c26a, c26b, c26c, c26d⟩ := c26; try dsimp only at hR
  refine RD.callp (r := .tup [.agg [.int .u32 c26a.Own, .int .u32 c26a.Peer, .int .i64 c26a.Phase, .bool c26a.Leads, .int .u32 c26a.Seq, .ro 8 (c26a.Left.map THeader.c), .ro 8 (c26a.Got.map THeader.c), .int .i64 c26a.Last.MTU, .int .i64 c26a.Last.Options, .bool c26a.Last.Init, .bool c26a.Last.More, .bool c26a.Last.Master, .int .u32 c26a.Last.Seq, .ro 8 (c26a.Last.Heads.map THeader.c)], .agg [.int .i64 c26b.MTU, .int .i64 c26b.Options, .bool c26b.Init, .bool c26b.More, .bool c26b.Master, .int .u32 c26b.Seq, .ro 8 (c26b.Heads.map THeader.c)], .bool c26c, .int .i64 c26d]) rfl rfl rfl (f15_ok c15c.s c15a _ hc26) rfl rfl ?_
  refine RD.m rfl ?_
  refine RD.q (.agg [.int .u32 c26a.Own, .int .u32 c26a.Peer, .int .i64 c26a.Phase, .bool c26a.Leads, .int .u32 c26a.Seq, .ro 8 (c26a.Left.map THeader.c), .ro 8 (c26a.Got.map THeader.c), .int .i64 c26a.Last.MTU, .int .i64 c26a.Last.Options, .bool c26a.Last.Init, .bool c26a.Last.More, .bool c26a.Last.Master, .int .u32 c26a.Last.Seq, .ro 8 (c26a.Last.Heads.map THeader.c)]) ?_
  refine RD.q (.agg [.int .i64 c26b.MTU, .int .i64 c26b.Options, .bool c26b.Init, .bool c26b.More, .bool c26b.Master, .int .u32 c26b.Seq, .ro 8 (c26b.Heads.map THeader.c)]) ?_
  refine RD.q (.bool c26c) ?_
  refine RD.q (.int .i64 c26d) ?_
  refine RD.step (v' := .ptr 8 0) (heap' := [(0, .box [.int .u32 c15c.s.Own, .int .u32 c15c.s.Peer, .int .i64 c15c.s.Phase, .bool c15c.s.Leads, .int .u32 c15c.s.Seq, .ro 8 (c15c.s.Left.map THeader.c), .ro 8 (c15c.s.Got.map THeader.c), .int .i64 c15c.s.Last.MTU, .int .i64 c15c.s.Last.Options, .bool c15c.s.Last.Init, .bool c15c.s.Last.More, .bool c15c.s.Last.Master, .int .u32 c15c.s.Last.Seq, .ro 8 (c15c.s.Last.Heads.map THeader.c), .own 6 7 0 c15c.waits.length]), (1, .box [.int .u32 other1.s.Own, .int .u32 other1.s.Peer, .int .i64 other1.s.Phase, .bool other1.s.Leads, .int .u32 other1.s.Seq, .ro 8 (other1.s.Left.map THeader.c), .ro 8 (other1.s.Got.map THeader.c), .int .i64 other1.s.Last.MTU, .int .i64 other1.s.Last.Options, .bool other1.s.Last.Init, .bool other1.s.Last.More, .bool other1.s.Last.Master, .int .u32 other1.s.Last.Seq, .ro 8 (other1.s.Last.Heads.map THeader.c), .own 5 7 0 other1.waits.length]), (5, .row 7 29 (other1.waits.map TDesc.c)), (6, .row 7 29 (c15c.waits.map TDesc.c)), (7, .box (TDesc.c c15a)), (8, .box [.int .u32 0, .int .u32 0, .int .i64 0, .bool false, .int .u32 0, .nils, .nils, .int .i64 0, .int .i64 0, .bool false, .bool false, .bool false, .int .u32 0, .nils])]) (next' := 9) rfl rfl rfl rfl rfl rfl rfl ?_
  refine RD.step (v' := .ptr 9 0) (heap' := [(0, .box [.int .u32 c15c.s.Own, .int .u32 c15c.s.Peer, .int .i64 c15c.s.Phase, .bool c15c.s.Leads, .int .u32 c15c.s.Seq, .ro 8 (c15c.s.Left.map THeader.c), .ro 8 (c15c.s.Got.map THeader.c), .int .i64 c15c.s.Last.MTU, .int .i64 c15c.s.Last.Options, .bool c15c.s.Last.Init, .bool c15c.s.Last.More, .bool c15c.s.Last.Master, .int .u32 c15c.s.Last.Seq, .ro 8 (c15c.s.Last.Heads.map THeader.c), .own 6 7 0 c15c.waits.length]), (1, .box [.int .u32 other1.s.Own, .int .u32 other1.s.Peer, .int .i64 other1.s.Phase, .bool other1.s.Leads, .int .u32 other1.s.Seq, .ro 8 (other1.s.Left.map THeader.c), .ro 8 (other1.s.Got.map THeader.c), .int .i64 other1.s.Last.MTU, .int .i64 other1.s.Last.Options, .bool other1.s.Last.Init, .bool other1.s.Last.More, .bool other1.s.Last.Master, .int .u32 other1.s.Last.Seq, .ro 8 (other1.s.Last.Heads.map THeader.c), .own 5 7 0 other1.waits.length]), (5, .row 7 29 (other1.waits.map TDesc.c)), (6, .row 7 29 (c15c.waits.map TDesc.c)), (7, .box (TDesc.c c15a)), (8, .box [.int .u32 0, .int .u32 0, .int .i64 0, .bool false, .int .u32 0, .nils, .nils, .int .i64 0, .int .i64 0, .bool false, .bool false, .bool false, .int .u32 0, .nils]), (9, .box [.int .i64 0, .int .i64 0, .bool false, .bool false, .bool false, .int .u32 0, .nils])]) (next' := 10) rfl rfl rfl rfl rfl rfl rfl ?_
  refine RD.step0 (heap' := [(0, .box [.int .u32 c15c.s.Own, .int .u32 c15c.s.Peer, .int .i64 c15c.s.Phase, .bool c15c.s.Leads, .int .u32 c15c.s.Seq, .ro 8 (c15c.s.Left.map THeader.c), .ro 8 (c15c.s.Got.map THeader.c), .int .i64 c15c.s.Last.MTU, .int .i64 c15c.s.Last.Options, .bool c15c.s.Last.Init, .bool c15c.s.Last.More, .bool c15c.s.Last.Master, .int .u32 c15c.s.Last.Seq, .ro 8 (c15c.s.Last.Heads.map THeader.c), .own 6 7 0 c15c.waits.length]), (1, .box [.int .u32 other1.s.Own, .int .u32 other1.s.Peer, .int .i64 other1.s.Phase, .bool other1.s.Leads, .int .u32 other1.s.Seq, .ro 8 (other1.s.Left.map THeader.c), .ro 8 (other1.s.Got.map THeader.c), .int .i64 other1.s.Last.MTU, .int .i64 other1.s.Last.Options, .bool other1.s.Last.Init, .bool other1.s.Last.More, .bool other1.s.Last.Master, .int .u32 other1.s.Last.Seq, .ro 8 (other1.s.Last.Heads.map THeader.c), .own 5 7 0 other1.waits.length]), (5, .row 7 29 (other1.waits.map TDesc.c)), (6, .row 7 29 (c15c.waits.map TDesc.c)), (7, .box (TDesc.c c15a)), (8, .box (TSession.c c26a)), (9, .box [.int .i64 0, .int .i64 0, .bool false, .bool false, .bool false, .int .u32 0, .nils])]) (next' := 10) rfl rfl rfl rfl rfl ?_
  refine RD.step0 (heap' := [(0, .box [.int .u32 c15c.s.Own, .int .u32 c15c.s.Peer, .int .i64 c15c.s.Phase, .bool c15c.s.Leads, .int .u32 c15c.s.Seq, .ro 8 (c15c.s.Left.map THeader.c), .ro 8 (c15c.s.Got.map THeader.c), .int .i64 c15c.s.Last.MTU, .int .i64 c15c.s.Last.Options, .bool c15c.s.Last.Init, .bool c15c.s.Last.More, .bool c15c.s.Last.Master, .int .u32 c15c.s.Last.Seq, .ro 8 (c15c.s.Last.Heads.map THeader.c), .own 6 7 0 c15c.waits.length]), (1, .box [.int .u32 other1.s.Own, .int .u32 other1.s.Peer, .int .i64 other1.s.Phase, .bool other1.s.Leads, .int .u32 other1.s.Seq, .ro 8 (other1.s.Left.map THeader.c), .ro 8 (other1.s.Got.map THeader.c), .int .i64 other1.s.Last.MTU, .int .i64 other1.s.Last.Options, .bool other1.s.Last.Init, .bool other1.s.Last.More, .bool other1.s.Last.Master, .int .u32 other1.s.Last.Seq, .ro 8 (other1.s.Last.Heads.map THeader.c), .own 5 7 0 other1.waits.length]), (5, .row 7 29 (other1.waits.map TDesc.c)), (6, .row 7 29 (c15c.waits.map TDesc.c)), (7, .box (TDesc.c c15a)), (8, .box (TSession.c c26a)), (9, .box (TDesc.c c26b))]) (next' := 10) rfl rfl rfl rfl rfl ?_
  iterate 2 refine RD.m rfl ?_
  refine RD.done rfl ?_
  refine WK.sr mixed ?_
  refine GX.m rfl ?_
  refine GX.q (.agg (TSession.c c26a)) ?_
  iterate 2 refine GX.q (.ptr 0 0) ?_
  refine GX.step0 (heap' := [(0, .box [.int .u32 c26a.Own, .int .u32 c26a.Peer, .int .i64 c26a.Phase, .bool c26a.Leads, .int .u32 c26a.Seq, .ro 8 (c26a.Left.map THeader.c), .ro 8 (c26a.Got.map THeader.c), .int .i64 c26a.Last.MTU, .int .i64 c26a.Last.Options, .bool c26a.Last.Init, .bool c26a.Last.More, .bool c26a.Last.Master, .int .u32 c26a.Last.Seq, .ro 8 (c26a.Last.Heads.map THeader.c), .own 6 7 0 c15c.waits.length]), (1, .box [.int .u32 other1.s.Own, .int .u32 other1.s.Peer, .int .i64 other1.s.Phase, .bool other1.s.Leads, .int .u32 other1.s.Seq, .ro 8 (other1.s.Left.map THeader.c), .ro 8 (other1.s.Got.map THeader.c), .int .i64 other1.s.Last.MTU, .int .i64 other1.s.Last.Options, .bool other1.s.Last.Init, .bool other1.s.Last.More, .bool other1.s.Last.Master, .int .u32 other1.s.Last.Seq, .ro 8 (other1.s.Last.Heads.map THeader.c), .own 5 7 0 other1.waits.length]), (5, .row 7 29 (other1.waits.map TDesc.c)), (6, .row 7 29 (c15c.waits.map TDesc.c)), (7, .box (TDesc.c c15a)), (8, .box (TSession.c c26a)), (9, .box (TDesc.c c26b))]) (next' := 10) rfl rfl rfl rfl rfl ?_
  refine GX.done ?_
  refine WK.sr mixed ?_
  refine GX.m rfl ?_
  refine GX.done ?_
  rcases bool_two (c26c) with hb3 | hb3
  ·rw [hb3]; first | replace hR := cond_f hb3 hR | (try simp only [hb3, bb] at hR)
   refine WK.condF rfl ?_
   refine WK.skip ?_
   refine WK.nil ?_
   obtain rfl := Option.some.inj hR
   exact RetQ.ret [0, 1, 2, 3, 6, 5] [] (.inl rfl) rfl rfl rfl rfl rfl .refl rfl
  ·rw [hb3]; first | replace hR := cond_t hb3 hR | (try simp only [hb3, bb] at hR)
   refine WK.condT rfl ?_
   refine WK.drawn mixed ?_
   iterate 2 refine RD.m rfl ?_
   refine RD.q (.ptr 1 0) ?_
   refine RD.q (.ptr 1 14) ?_
   refine RD.q (.own 5 7 0 other1.waits.length) ?_
   refine RD.q (.agg (TDesc.c c26b)) ?_
   refine RD.step (v' := .own 10 7 0 (([c26b] : List TDesc)).length) (heap' := [(0, .box [.int .u32 c26a.Own, .int .u32 c26a.Peer, .int .i64 c26a.Phase, .bool c26a.Leads, .int .u32 c26a.Seq, .ro 8 (c26a.Left.map THeader.c), .ro 8 (c26a.Got.map THeader.c), .int .i64 c26a.Last.MTU, .int .i64 c26a.Last.Options, .bool c26a.Last.Init, .bool c26a.Last.More, .bool c26a.Last.Master, .int .u32 c26a.Last.Seq, .ro 8 (c26a.Last.Heads.map THeader.c), .own 6 7 0 c15c.waits.length]), (1, .box [.int .u32 other1.s.Own, .int .u32 other1.s.Peer, .int .i64 other1.s.Phase, .bool other1.s.Leads, .int .u32 other1.s.Seq, .ro 8 (other1.s.Left.map THeader.c), .ro 8 (other1.s.Got.map THeader.c), .int .i64 other1.s.Last.MTU, .int .i64 other1.s.Last.Options, .bool other1.s.Last.Init, .bool other1.s.Last.More, .bool other1.s.Last.Master, .int .u32 other1.s.Last.Seq, .ro 8 (other1.s.Last.Heads.map THeader.c), .own 5 7 0 other1.waits.length]), (5, .row 7 29 (other1.waits.map TDesc.c)), (6, .row 7 29 (c15c.waits.map TDesc.c)), (7, .box (TDesc.c c15a)), (8, .box (TSession.c c26a)), (9, .box (TDesc.c c26b)), (10, .row 7 29 (([c26b] : List TDesc).map TDesc.c))]) (next' := 11) rfl rfl rfl rfl rfl rfl rfl ?_
   rcases bool_two (decide (other1.waits.length < 1099511627776)) with hg4 | hg4
   ·simp only [hg4, bb] at hR
    try dsimp only at hR
    cases hR
   simp only [hg4, bb] at hR
   have hg4_ := of_decide_eq_true hg4
   refine RD.appT (c := TDesc.c) (L := other1.waits) (X := ([c26b] : List TDesc)) (heap' := [(0, .box [.int .u32 c26a.Own, .int .u32 c26a.Peer, .int .i64 c26a.Phase, .bool c26a.Leads, .int .u32 c26a.Seq, .ro 8 (c26a.Left.map THeader.c), .ro 8 (c26a.Got.map THeader.c), .int .i64 c26a.Last.MTU, .int .i64 c26a.Last.Options, .bool c26a.Last.Init, .bool c26a.Last.More, .bool c26a.Last.Master, .int .u32 c26a.Last.Seq, .ro 8 (c26a.Last.Heads.map THeader.c), .own 6 7 0 c15c.waits.length]), (1, .box [.int .u32 other1.s.Own, .int .u32 other1.s.Peer, .int .i64 other1.s.Phase, .bool other1.s.Leads, .int .u32 other1.s.Seq, .ro 8 (other1.s.Left.map THeader.c), .ro 8 (other1.s.Got.map THeader.c), .int .i64 other1.s.Last.MTU, .int .i64 other1.s.Last.Options, .bool other1.s.Last.Init, .bool other1.s.Last.More, .bool other1.s.Last.Master, .int .u32 other1.s.Last.Seq, .ro 8 (other1.s.Last.Heads.map THeader.c), .own 5 7 0 other1.waits.length]), (6, .row 7 29 (c15c.waits.map TDesc.c)), (7, .box (TDesc.c c15a)), (8, .box (TSession.c c26a)), (9, .box (TDesc.c c26b)), (10, .row 7 29 (([c26b] : List TDesc).map TDesc.c)), (11, .row 7 29 ((other1.waits ++ ([c26b] : List TDesc)).map TDesc.c))]) (next' := 12) rfl rfl rfl rfl (elems_own rfl) (by ((try simp only [List.length_append, List.length_cons, List.length_nil, List.length_map, decide_eq_true_eq, decide_eq_false_iff_not] at *) <;> omega)) (by ((try simp only [List.length_append, List.length_cons, List.length_nil, List.length_map, decide_eq_true_eq, decide_eq_false_iff_not] at *) <;> omega)) rfl rfl rfl rfl ?_
   refine RD.q (.ptr 1 0) ?_
   refine RD.q (.ptr 1 14) ?_
   refine RD.step0 (heap' := [(0, .box [.int .u32 c26a.Own, .int .u32 c26a.Peer, .int .i64 c26a.Phase, .bool c26a.Leads, .int .u32 c26a.Seq, .ro 8 (c26a.Left.map THeader.c), .ro 8 (c26a.Got.map THeader.c), .int .i64 c26a.Last.MTU, .int .i64 c26a.Last.Options, .bool c26a.Last.Init, .bool c26a.Last.More, .bool c26a.Last.Master, .int .u32 c26a.Last.Seq, .ro 8 (c26a.Last.Heads.map THeader.c), .own 6 7 0 c15c.waits.length]), (1, .box [.int .u32 other1.s.Own, .int .u32 other1.s.Peer, .int .i64 other1.s.Phase, .bool other1.s.Leads, .int .u32 other1.s.Seq, .ro 8 (other1.s.Left.map THeader.c), .ro 8 (other1.s.Got.map THeader.c), .int .i64 other1.s.Last.MTU, .int .i64 other1.s.Last.Options, .bool other1.s.Last.Init, .bool other1.s.Last.More, .bool other1.s.Last.Master, .int .u32 other1.s.Last.Seq, .ro 8 (other1.s.Last.Heads.map THeader.c), .own 11 7 0 (other1.waits ++ ([c26b] : List TDesc)).length]), (6, .row 7 29 (c15c.waits.map TDesc.c)), (7, .box (TDesc.c c15a)), (8, .box (TSession.c c26a)), (9, .box (TDesc.c c26b)), (10, .row 7 29 (([c26b] : List TDesc).map TDesc.c)), (11, .row 7 29 ((other1.waits ++ ([c26b] : List TDesc)).map TDesc.c))]) (next' := 12) rfl rfl rfl rfl rfl ?_
   refine RD.done rfl ?_
   refine WK.nil ?_
   obtain rfl := Option.some.inj hR
   exact RetQ.ret [0, 1, 2, 3, 6, 11] [] (.inl rfl) rfl rfl rfl rfl rfl .refl rfl

theorem f17_ok (s0 : TSession) (R : TDesc × Bool) (hR : F17_exch_Again s0 = R) : FnOk Try.prog 17 [.agg (TSession.c s0)] [] 0 (.tup [.agg (TDesc.c R.1), .bool R.2]) [] 0 := by
 refine FnOk.wk i17 rfl rfl ?_
 unfold F17_exch_Again at hR
 change WK _ _ _ [ac17] _ ⟨[(0, .agg (TSession.c s0))], [], 0⟩
 unfold ac17
 refine WK.sr mixed ?_
 refine GX.step (v' := .ptr 0 0) (heap' := [(0, .box (TSession.c s0))]) (next' := 1) rfl rfl rfl rfl rfl rfl rfl ?_
 refine GX.step (v' := .ptr 1 0) (heap' := [(0, .box (TSession.c s0)), (1, .box [.int .i64 0, .int .i64 0, .bool false, .bool false, .bool false, .int .u32 0, .nils])]) (next' := 2) rfl rfl rfl rfl rfl rfl rfl ?_
 refine GX.m rfl ?_
 refine GX.done ?_
 refine WK.seq ?_
 refine WK.sr mixed ?_
 refine GX.q (.ptr 0 2) ?_
 refine GX.q (.int .i64 s0.Phase) ?_
 refine GX.q (.bool (decide (s0.Phase = 0))) ?_
 refine GX.m rfl ?_
 rcases bool_two (decide (s0.Phase = 0)) with hb1 | hb1
 ·rw [hb1]; try simp only [hb1, bb] at hR
  refine GX.q (.ptr 0 3) ?_
  refine GX.q (.bool s0.Leads) ?_
  refine GX.m rfl ?_
  rcases bool_two (s0.Leads) with hb2 | hb2
  ·rw [hb2]; try simp only [hb2, bb] at hR
   iterate 3 refine GX.skip rfl rfl ?_
   iterate 2 refine GX.q (.bool false) ?_
   refine GX.done ?_
   refine WK.condF rfl ?_
   refine WK.skip ?_
   refine WK.sr mixed ?_
   refine GX.q (.agg [.int .i64 0, .int .i64 0, .bool false, .bool false, .bool false, .int .u32 0, .nils]) ?_
   refine GX.step0 (heap' := [(0, .box (TSession.c s0)), (1, .box [.int .i64 0, .int .i64 0, .bool false, .bool false, .bool false, .int .u32 0, .nils])]) (next' := 2) rfl rfl rfl rfl rfl ?_
   refine GX.m rfl ?_
   refine GX.done ?_
   refine WK.ret ?_
   subst hR
   exact RetQ.frw [] (.inr rfl) rfl rfl rfl (.tup (.cons (.agg (.cons .refl (.cons .refl (.cons .refl (.cons .refl (.cons .refl (.cons .refl (.cons .nil .refl)))))))) .refl))
  ·rw [hb2]; try simp only [hb2, bb] at hR
   refine GX.q (.ptr 0 2) ?_
   refine GX.q (.int .i64 s0.Phase) ?_
   iterate 3 refine GX.q (.bool (decide (s0.Phase = 1))) ?_
   refine GX.done ?_
   rcases bool_two (decide (s0.Phase = 1)) with hb3 | hb3
   ·rw [hb3]; try simp only [hb3, bb] at hR
    refine WK.condF rfl ?_
    refine WK.skip ?_
    refine WK.sr mixed ?_
    refine GX.q (.agg [.int .i64 0, .int .i64 0, .bool false, .bool false, .bool false, .int .u32 0, .nils]) ?_
    refine GX.step0 (heap' := [(0, .box (TSession.c s0)), (1, .box [.int .i64 0, .int .i64 0, .bool false, .bool false, .bool false, .int .u32 0, .nils])]) (next' := 2) rfl rfl rfl rfl rfl ?_
    refine GX.m rfl ?_
    refine GX.done ?_
    refine WK.ret ?_
    subst hR
    exact RetQ.frw [] (.inr rfl) rfl rfl rfl (.tup (.cons (.agg (.cons .refl (.cons .refl (.cons .refl (.cons .refl (.cons .refl (.cons .refl (.cons .nil .refl)))))))) .refl))
   ·rw [hb3]; try simp only [hb3, bb] at hR
    refine WK.condT rfl ?_
    refine WK.sr mixed ?_
    refine GX.q (.ptr 0 7) ?_
    refine GX.q (.agg [.int .i64 s0.Last.MTU, .int .i64 s0.Last.Options, .bool s0.Last.Init, .bool s0.Last.More, .bool s0.Last.Master, .int .u32 s0.Last.Seq, .ro 8 (s0.Last.Heads.map THeader.c)]) ?_
    refine GX.step0 (heap' := [(0, .box (TSession.c s0)), (1, .box (TDesc.c s0.Last))]) (next' := 2) rfl rfl rfl rfl rfl ?_
    refine GX.m rfl ?_
    refine GX.done ?_
    refine WK.ret ?_
    subst hR
    exact RetQ.fr [] (.inr rfl) rfl rfl rfl rfl
 ·rw [hb1]; try simp only [hb1, bb] at hR
  iterate 7 refine GX.skip rfl rfl ?_
  refine GX.q (.bool true) ?_
  refine GX.done ?_
  refine WK.condT rfl ?_
  refine WK.sr mixed ?_
  refine GX.q (.ptr 0 7) ?_
  refine GX.q (.agg [.int .i64 s0.Last.MTU, .int .i64 s0.Last.Options, .bool s0.Last.Init, .bool s0.Last.More, .bool s0.Last.Master, .int .u32 s0.Last.Seq, .ro 8 (s0.Last.Heads.map THeader.c)]) ?_
  refine GX.step0 (heap' := [(0, .box (TSession.c s0)), (1, .box (TDesc.c s0.Last))]) (next' := 2) rfl rfl rfl rfl rfl ?_
  refine GX.m rfl ?_
  refine GX.done ?_
  refine WK.ret ?_
  subst hR
  exact RetQ.fr [] (.inr rfl) rfl rfl rfl rfl

theorem f34_ok (x0 : TEnd) (other1 : TEnd) (R : TEnd × TEnd) (hR : F34_exch_end_remind x0 other1 = some R) : FnOk Try.prog 34 [.ptr 0 0, .ptr 1 0] [(0, .box [.int .u32 x0.s.Own, .int .u32 x0.s.Peer, .int .i64 x0.s.Phase, .bool x0.s.Leads, .int .u32 x0.s.Seq, .ro 8 (x0.s.Left.map THeader.c), .ro 8 (x0.s.Got.map THeader.c), .int .i64 x0.s.Last.MTU, .int .i64 x0.s.Last.Options, .bool x0.s.Last.Init, .bool x0.s.Last.More, .bool x0.s.Last.Master, .int .u32 x0.s.Last.Seq, .ro 8 (x0.s.Last.Heads.map THeader.c), .own 2 7 0 x0.waits.length]), (1, .box [.int .u32 other1.s.Own, .int .u32 other1.s.Peer, .int .i64 other1.s.Phase, .bool other1.s.Leads, .int .u32 other1.s.Seq, .ro 8 (other1.s.Left.map THeader.c), .ro 8 (other1.s.Got.map THeader.c), .int .i64 other1.s.Last.MTU, .int .i64 other1.s.Last.Options, .bool other1.s.Last.Init, .bool other1.s.Last.More, .bool other1.s.Last.Master, .int .u32 other1.s.Last.Seq, .ro 8 (other1.s.Last.Heads.map THeader.c), .own 3 7 0 other1.waits.length]), (2, .row 7 29 (x0.waits.map TDesc.c)), (3, .row 7 29 (other1.waits.map TDesc.c))] 4 (.tup []) [(0, .box [.int .u32 R.1.s.Own, .int .u32 R.1.s.Peer, .int .i64 R.1.s.Phase, .bool R.1.s.Leads, .int .u32 R.1.s.Seq, .ro 8 (R.1.s.Left.map THeader.c), .ro 8 (R.1.s.Got.map THeader.c), .int .i64 R.1.s.Last.MTU, .int .i64 R.1.s.Last.Options, .bool R.1.s.Last.Init, .bool R.1.s.Last.More, .bool R.1.s.Last.Master, .int .u32 R.1.s.Last.Seq, .ro 8 (R.1.s.Last.Heads.map THeader.c), .own 4 7 0 R.1.waits.length]), (1, .box [.int .u32 R.2.s.Own, .int .u32 R.2.s.Peer, .int .i64 R.2.s.Phase, .bool R.2.s.Leads, .int .u32 R.2.s.Seq, .ro 8 (R.2.s.Left.map THeader.c), .ro 8 (R.2.s.Got.map THeader.c), .int .i64 R.2.s.Last.MTU, .int .i64 R.2.s.Last.Options, .bool R.2.s.Last.Init, .bool R.2.s.Last.More, .bool R.2.s.Last.Master, .int .u32 R.2.s.Last.Seq, .ro 8 (R.2.s.Last.Heads.map THeader.c), .own 5 7 0 R.2.waits.length]), (4, .row 7 29 (R.1.waits.map TDesc.c)), (5, .row 7 29 (R.2.waits.map TDesc.c))] 6 := by
 refine FnOk.wk i34 rfl rfl ?_
 unfold F34_exch_end_remind at hR
 try dsimp only at hR
 change WK _ _ _ [ac34] _ ⟨[(0, .ptr 0 0), (1, .ptr 1 0)], [(0, .box [.int .u32 x0.s.Own, .int .u32 x0.s.Peer, .int .i64 x0.s.Phase, .bool x0.s.Leads, .int .u32 x0.s.Seq, .ro 8 (x0.s.Left.map THeader.c), .ro 8 (x0.s.Got.map THeader.c), .int .i64 x0.s.Last.MTU, .int .i64 x0.s.Last.Options, .bool x0.s.Last.Init, .bool x0.s.Last.More, .bool x0.s.Last.Master, .int .u32 x0.s.Last.Seq, .ro 8 (x0.s.Last.Heads.map THeader.c), .own 2 7 0 x0.waits.length]), (1, .box [.int .u32 other1.s.Own, .int .u32 other1.s.Peer, .int .i64 other1.s.Phase, .bool other1.s.Leads, .int .u32 other1.s.Seq, .ro 8 (other1.s.Left.map THeader.c), .ro 8 (other1.s.Got.map THeader.c), .int .i64 other1.s.Last.MTU, .int .i64 other1.s.Last.Options, .bool other1.s.Last.Init, .bool other1.s.Last.More, .bool other1.s.Last.Master, .int .u32 other1.s.Last.Seq, .ro 8 (other1.s.Last.Heads.map THeader.c), .own 3 7 0 other1.waits.length]), (2, .row 7 29 (x0.waits.map TDesc.c)), (3, .row 7 29 (other1.waits.map TDesc.c))], 4⟩
 unfold ac34
 refine WK.mvB (id := 0) (j := 14) (heap' := [(0, .box [.int .u32 x0.s.Own, .int .u32 x0.s.Peer, .int .i64 x0.s.Phase, .bool x0.s.Leads, .int .u32 x0.s.Seq, .ro 8 (x0.s.Left.map THeader.c), .ro 8 (x0.s.Got.map THeader.c), .int .i64 x0.s.Last.MTU, .int .i64 x0.s.Last.Options, .bool x0.s.Last.Init, .bool x0.s.Last.More, .bool x0.s.Last.Master, .int .u32 x0.s.Last.Seq, .ro 8 (x0.s.Last.Heads.map THeader.c), .own 4 7 0 x0.waits.length]), (1, .box [.int .u32 other1.s.Own, .int .u32 other1.s.Peer, .int .i64 other1.s.Phase, .bool other1.s.Leads, .int .u32 other1.s.Seq, .ro 8 (other1.s.Left.map THeader.c), .ro 8 (other1.s.Got.map THeader.c), .int .i64 other1.s.Last.MTU, .int .i64 other1.s.Last.Options, .bool other1.s.Last.Init, .bool other1.s.Last.More, .bool other1.s.Last.Master, .int .u32 other1.s.Last.Seq, .ro 8 (other1.s.Last.Heads.map THeader.c), .own 3 7 0 other1.waits.length]), (3, .row 7 29 (other1.waits.map TDesc.c)), (4, .row 7 29 (x0.waits.map TDesc.c))]) rfl rfl rfl (by simp) rfl ?_
 refine WK.mvB (id := 1) (j := 14) (heap' := [(0, .box [.int .u32 x0.s.Own, .int .u32 x0.s.Peer, .int .i64 x0.s.Phase, .bool x0.s.Leads, .int .u32 x0.s.Seq, .ro 8 (x0.s.Left.map THeader.c), .ro 8 (x0.s.Got.map THeader.c), .int .i64 x0.s.Last.MTU, .int .i64 x0.s.Last.Options, .bool x0.s.Last.Init, .bool x0.s.Last.More, .bool x0.s.Last.Master, .int .u32 x0.s.Last.Seq, .ro 8 (x0.s.Last.Heads.map THeader.c), .own 4 7 0 x0.waits.length]), (1, .box [.int .u32 other1.s.Own, .int .u32 other1.s.Peer, .int .i64 other1.s.Phase, .bool other1.s.Leads, .int .u32 other1.s.Seq, .ro 8 (other1.s.Left.map THeader.c), .ro 8 (other1.s.Got.map THeader.c), .int .i64 other1.s.Last.MTU, .int .i64 other1.s.Last.Options, .bool other1.s.Last.Init, .bool other1.s.Last.More, .bool other1.s.Last.Master, .int .u32 other1.s.Last.Seq, .ro 8 (other1.s.Last.Heads.map THeader.c), .own 5 7 0 other1.waits.length]), (4, .row 7 29 (x0.waits.map TDesc.c)), (5, .row 7 29 (other1.waits.map TDesc.c))]) rfl rfl rfl (by simp) rfl ?_
 refine WK.sr mixed ?_
 refine GX.m rfl ?_
 iterate 2 refine GX.q (.ptr 0 0) ?_
 refine GX.q (.agg [.int .u32 x0.s.Own, .int .u32 x0.s.Peer, .int .i64 x0.s.Phase, .bool x0.s.Leads, .int .u32 x0.s.Seq, .ro 8 (x0.s.Left.map THeader.c), .ro 8 (x0.s.Got.map THeader.c), .int .i64 x0.s.Last.MTU, .int .i64 x0.s.Last.Options, .bool x0.s.Last.Init, .bool x0.s.Last.More, .bool x0.s.Last.Master, .int .u32 x0.s.Last.Seq, .ro 8 (x0.s.Last.Heads.map THeader.c)]) ?_
 generalize hc11 : F17_exch_Again x0.s = c11 at hR
 obtain ⟨c11a, c11b⟩ := c11; try dsimp only at hR
 refine GX.callp (r := .tup [.agg [.int .i64 c11a.MTU, .int .i64 c11a.Options, .bool c11a.Init, .bool c11a.More, .bool c11a.Master, .int .u32 c11a.Seq, .ro 8 (c11a.Heads.map THeader.c)], .bool c11b]) rfl rfl rfl (f17_ok x0.s _ hc11) rfl rfl ?_
 refine GX.m rfl ?_
 refine GX.q (.agg [.int .i64 c11a.MTU, .int .i64 c11a.Options, .bool c11a.Init, .bool c11a.More, .bool c11a.Master, .int .u32 c11a.Seq, .ro 8 (c11a.Heads.map THeader.c)]) ?_
 refine GX.q (.bool c11b) ?_
 refine GX.step (v' := .ptr 6 0) (heap' := [(0, .box [.int .u32 x0.s.Own, .int .u32 x0.s.Peer, .int .i64 x0.s.Phase, .bool x0.s.Leads, .int .u32 x0.s.Seq, .ro 8 (x0.s.Left.map THeader.c), .ro 8 (x0.s.Got.map THeader.c), .int .i64 x0.s.Last.MTU, .int .i64 x0.s.Last.Options, .bool x0.s.Last.Init, .bool x0.s.Last.More, .bool x0.s.Last.Master, .int .u32 x0.s.Last.Seq, .ro 8 (x0.s.Last.Heads.map THeader.c), .own 4 7 0 x0.waits.length]), (1, .box [.int .u32 other1.s.Own, .int .u32 other1.s.Peer, .int .i64 other1.s.Phase, .bool other1.s.Leads, .int .u32 other1.s.Seq, .ro 8 (other1.s.Left.map THeader.c), .ro 8 (other1.s.Got.map THeader.c), .int .i64 other1.s.Last.MTU, .int .i64 other1.s.Last.Options, .bool other1.s.Last.Init, .bool other1.s.Last.More, .bool other1.s.Last.Master, .int .u32 other1.s.Last.Seq, .ro 8 (other1.s.Last.Heads.map THeader.c), .own 5 7 0 other1.waits.length]), (4, .row 7 29 (x0.waits.map TDesc.c)), (5, .row 7 29 (other1.waits.map TDesc.c)), (6, .box [.int .i64 0, .int .i64 0, .bool false, .bool false, .bool false, .int .u32 0, .nils])]) (next' := 7) rfl rfl rfl rfl rfl rfl rfl ?_
 refine GX.step0 (heap' := [(0, .box [.int .u32 x0.s.Own, .int .u32 x0.s.Peer, .int .i64 x0.s.Phase, .bool x0.s.Leads, .int .u32 x0.s.Seq, .ro 8 (x0.s.Left.map THeader.c), .ro 8 (x0.s.Got.map THeader.c), .int .i64 x0.s.Last.MTU, .int .i64 x0.s.Last.Options, .bool x0.s.Last.Init, .bool x0.s.Last.More, .bool x0.s.Last.Master, .int .u32 x0.s.Last.Seq, .ro 8 (x0.s.Last.Heads.map THeader.c), .own 4 7 0 x0.waits.length]), (1, .box [.int .u32 other1.s.Own, .int .u32 other1.s.Peer, .int .i64 other1.s.Phase, .bool other1.s.Leads, .int .u32 other1.s.Seq, .ro 8 (other1.s.Left.map THeader.c), .ro 8 (other1.s.Got.map THeader.c), .int .i64 other1.s.Last.MTU, .int .i64 other1.s.Last.Options, .bool other1.s.Last.Init, .bool other1.s.Last.More, .bool other1.s.Last.Master, .int .u32 other1.s.Last.Seq, .ro 8 (other1.s.Last.Heads.map THeader.c), .own 5 7 0 other1.waits.length]), (4, .row 7 29 (x0.waits.map TDesc.c)), (5, .row 7 29 (other1.waits.map TDesc.c)), (6, .box (TDesc.c c11a))]) (next' := 7) rfl rfl rfl rfl rfl ?_
 refine GX.m rfl ?_
 refine GX.done ?_
 refine WK.sr mixed ?_
 refine GX.m rfl ?_
 refine GX.done ?_
 rcases bool_two (c11b) with hb1 | hb1
 ·rw [hb1]; first | replace hR := cond_f hb1 hR | (try simp only [hb1, bb] at hR)
  refine WK.condF rfl ?_
  refine WK.skip ?_
  refine WK.nil ?_
  obtain rfl := Option.some.inj hR
  exact RetQ.ret [0, 1, 2, 3, 4, 5] [] (.inl rfl) rfl rfl rfl rfl rfl .refl rfl
 ·rw [hb1]; first | replace hR := cond_t hb1 hR | (try simp only [hb1, bb] at hR)
  refine WK.condT rfl ?_
  refine WK.drawn mixed ?_
  iterate 2 refine RD.m rfl ?_
  refine RD.q (.ptr 1 0) ?_
  refine RD.q (.ptr 1 14) ?_
  refine RD.q (.own 5 7 0 other1.waits.length) ?_
  refine RD.q (.agg (TDesc.c c11a)) ?_
  refine RD.step (v' := .own 7 7 0 (([c11a] : List TDesc)).length) (heap' := [(0, .box [.int .u32 x0.s.Own, .int .u32 x0.s.Peer, .int .i64 x0.s.Phase, .bool x0.s.Leads, .int .u32 x0.s.Seq, .ro 8 (x0.s.Left.map THeader.c), .ro 8 (x0.s.Got.map THeader.c), .int .i64 x0.s.Last.MTU, .int .i64 x0.s.Last.Options, .bool x0.s.Last.Init, .bool x0.s.Last.More, .bool x0.s.Last.Master, .int .u32 x0.s.Last.Seq, .ro 8 (x0.s.Last.Heads.map THeader.c), .own 4 7 0 x0.waits.length]), (1, .box [.int .u32 other1.s.Own, .int .u32 other1.s.Peer, .int .i64 other1.s.Phase, .bool other1.s.Leads, .int .u32 other1.s.Seq, .ro 8 (other1.s.Left.map THeader.c), .ro 8 (other1.s.Got.map THeader.c), .int .i64 other1.s.Last.MTU, .int .i64 other1.s.Last.Options, .bool other1.s.Last.Init, .bool other1.s.Last.More, .bool other1.s.Last.Master, .int .u32 other1.s.Last.Seq, .ro 8 (other1.s.Last.Heads.map THeader.c), .own 5 7 0 other1.waits.length]), (4, .row 7 29 (x0.waits.map TDesc.c)), (5, .row 7 29 (other1.waits.map TDesc.c)), (6, .box (TDesc.c c11a)), (7, .row 7 29 (([c11a] : List TDesc).map TDesc.c))]) (next' := 8) rfl rfl rfl rfl rfl rfl rfl ?_
  rcases bool_two (decide (other1.waits.length < 1099511627776)) with hg2 | hg2
  ·simp only [hg2, bb] at hR
   try dsimp only at hR
   cases hR
  simp only [hg2, bb] at hR
  have hg2_ := of_decide_eq_true hg2
  refine RD.appT (c := TDesc.c) (L := other1.waits) (X := ([c11a] : List TDesc)) (heap' := [(0, .box [.int .u32 x0.s.Own, .int .u32 x0.s.Peer, .int .i64 x0.s.Phase, .bool x0.s.Leads, .int .u32 x0.s.Seq, .ro 8 (x0.s.Left.map THeader.c), .ro 8 (x0.s.Got.map THeader.c), .int .i64 x0.s.Last.MTU, .int .i64 x0.s.Last.Options, .bool x0.s.Last.Init, .bool x0.s.Last.More, .bool x0.s.Last.Master, .int .u32 x0.s.Last.Seq, .ro 8 (x0.s.Last.Heads.map THeader.c), .own 4 7 0 x0.waits.length]), (1, .box [.int .u32 other1.s.Own, .int .u32 other1.s.Peer, .int .i64 other1.s.Phase, .bool other1.s.Leads, .int .u32 other1.s.Seq, .ro 8 (other1.s.Left.map THeader.c), .ro 8 (other1.s.Got.map THeader.c), .int .i64 other1.s.Last.MTU, .int .i64 other1.s.Last.Options, .bool other1.s.Last.Init, .bool other1.s.Last.More, .bool other1.s.Last.Master, .int .u32 other1.s.Last.Seq, .ro 8 (other1.s.Last.Heads.map THeader.c), .own 5 7 0 other1.waits.length]), (4, .row 7 29 (x0.waits.map TDesc.c)), (6, .box (TDesc.c c11a)), (7, .row 7 29 (([c11a] : List TDesc).map TDesc.c)), (8, .row 7 29 ((other1.waits ++ ([c11a] : List TDesc)).map TDesc.c))]) (next' := 9) rfl rfl rfl rfl (elems_own rfl) (by ((try simp only [List.length_append, List.length_cons, List.length_nil, List.length_map, decide_eq_true_eq, decide_eq_false_iff_not] at *) <;> omega)) (by ((try simp only [List.length_append, List.length_cons, List.length_nil, List.length_map, decide_eq_true_eq, decide_eq_false_iff_not] at *) <;> omega)) rfl rfl rfl rfl ?_
  refine RD.q (.ptr 1 0) ?_
  refine RD.q (.ptr 1 14) ?_
  refine RD.step0 (heap' := [(0, .box [.int .u32 x0.s.Own, .int .u32 x0.s.Peer, .int .i64 x0.s.Phase, .bool x0.s.Leads, .int .u32 x0.s.Seq, .ro 8 (x0.s.Left.map THeader.c), .ro 8 (x0.s.Got.map THeader.c), .int .i64 x0.s.Last.MTU, .int .i64 x0.s.Last.Options, .bool x0.s.Last.Init, .bool x0.s.Last.More, .bool x0.s.Last.Master, .int .u32 x0.s.Last.Seq, .ro 8 (x0.s.Last.Heads.map THeader.c), .own 4 7 0 x0.waits.length]), (1, .box [.int .u32 other1.s.Own, .int .u32 other1.s.Peer, .int .i64 other1.s.Phase, .bool other1.s.Leads, .int .u32 other1.s.Seq, .ro 8 (other1.s.Left.map THeader.c), .ro 8 (other1.s.Got.map THeader.c), .int .i64 other1.s.Last.MTU, .int .i64 other1.s.Last.Options, .bool other1.s.Last.Init, .bool other1.s.Last.More, .bool other1.s.Last.Master, .int .u32 other1.s.Last.Seq, .ro 8 (other1.s.Last.Heads.map THeader.c), .own 8 7 0 (other1.waits ++ ([c11a] : List TDesc)).length]), (4, .row 7 29 (x0.waits.map TDesc.c)), (6, .box (TDesc.c c11a)), (7, .row 7 29 (([c11a] : List TDesc).map TDesc.c)), (8, .row 7 29 ((other1.waits ++ ([c11a] : List TDesc)).map TDesc.c))]) (next' := 9) rfl rfl rfl rfl rfl ?_
  refine RD.done rfl ?_
  refine WK.nil ?_
  obtain rfl := Option.some.inj hR
  exact RetQ.ret [0, 1, 2, 3, 4, 8] [] (.inl rfl) rfl rfl rfl rfl rfl .refl rfl

end Go.Proofs.Ytbmdpedhobkeeaa.Abs
