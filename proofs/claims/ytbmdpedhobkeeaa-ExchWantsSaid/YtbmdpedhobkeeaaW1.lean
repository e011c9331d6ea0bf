/- The functions walked: each computes its Lean function (printed by this work's own program gen.py). -/
import Derived.Test.YtbmdpedhobkeeaaSo
set_option linter.unusedVariables false
set_option linter.unusedSimpArgs false
set_option maxRecDepth 10000
set_option maxHeartbeats 4000000
namespace Go.Proofs.Ytbmdpedhobkeeaa.Abs
open Go

theorem f9_ok (own0 : Int) (peer1 : Int) (seq2 : Int) (heads3 : List THeader) (R : TSession × TDesc) (hR : F9_exch_Open own0 peer1 seq2 heads3 = some R) : FnOk Try.prog 9 [.int .u32 own0, .int .u32 peer1, .int .u32 seq2, .ro 8 (heads3.map THeader.c)] [] 0 (.tup [.agg (TSession.c R.1), .agg (TDesc.c R.2)]) [] 0 := by
 refine FnOk.wk i9 rfl rfl ?_
 unfold F9_exch_Open at hR
 try dsimp only at hR
 change WK _ _ _ [ac9] _ ⟨[(0, .int .u32 own0), (1, .int .u32 peer1), (2, .int .u32 seq2), (3, .ro 8 (heads3.map THeader.c))], [], 0⟩
 unfold ac9
 refine WK.sr mixed ?_
 refine GX.step (v' := .ptr 0 0) (heap' := [(0, .box [.int .u32 0, .int .u32 0, .int .i64 0, .bool false, .int .u32 0, .nils, .nils, .int .i64 0, .int .i64 0, .bool false, .bool false, .bool false, .int .u32 0, .nils])]) (next' := 1) rfl rfl rfl rfl rfl rfl rfl ?_
 refine GX.step (v' := .ptr 1 0) (heap' := [(0, .box [.int .u32 0, .int .u32 0, .int .i64 0, .bool false, .int .u32 0, .nils, .nils, .int .i64 0, .int .i64 0, .bool false, .bool false, .bool false, .int .u32 0, .nils]), (1, .box [.int .i64 0, .int .i64 0, .bool false, .bool false, .bool false, .int .u32 0, .nils])]) (next' := 2) rfl rfl rfl rfl rfl rfl rfl ?_
 refine GX.done ?_
 refine WK.sr mixed ?_
 refine GX.m rfl ?_
 refine GX.q (.agg [.int .i64 1500, .int .i64 2, .bool true, .bool true, .bool true, .int .u32 seq2, .nils]) ?_
 refine GX.step (v' := .ptr 2 0) (heap' := [(0, .box [.int .u32 0, .int .u32 0, .int .i64 0, .bool false, .int .u32 0, .nils, .nils, .int .i64 0, .int .i64 0, .bool false, .bool false, .bool false, .int .u32 0, .nils]), (1, .box [.int .i64 0, .int .i64 0, .bool false, .bool false, .bool false, .int .u32 0, .nils]), (2, .box [.int .i64 0, .int .i64 0, .bool false, .bool false, .bool false, .int .u32 0, .nils])]) (next' := 3) rfl rfl rfl rfl rfl rfl rfl ?_
 refine GX.step0 (heap' := [(0, .box [.int .u32 0, .int .u32 0, .int .i64 0, .bool false, .int .u32 0, .nils, .nils, .int .i64 0, .int .i64 0, .bool false, .bool false, .bool false, .int .u32 0, .nils]), (1, .box [.int .i64 0, .int .i64 0, .bool false, .bool false, .bool false, .int .u32 0, .nils]), (2, .box [.int .i64 1500, .int .i64 2, .bool true, .bool true, .bool true, .int .u32 seq2, .nils])]) (next' := 3) rfl rfl rfl rfl rfl ?_
 refine GX.done ?_
 refine WK.seq ?_
 refine WK.drawn mixed ?_
 iterate 4 refine RD.m rfl ?_
 rcases bool_two (decide (heads3.length < 1099511627776)) with hg1 | hg1
 ·simp only [hg1, bb] at hR
  try dsimp only at hR
  cases hR
 simp only [hg1, bb] at hR
 have hg1_ := of_decide_eq_true hg1
 refine RD.callx (r' := .own 3 8 0 heads3.length) (heap' := [(0, .box [.int .u32 0, .int .u32 0, .int .i64 0, .bool false, .int .u32 0, .nils, .nils, .int .i64 0, .int .i64 0, .bool false, .bool false, .bool false, .int .u32 0, .nils]), (1, .box [.int .i64 0, .int .i64 0, .bool false, .bool false, .bool false, .int .u32 0, .nils]), (2, .box [.int .i64 1500, .int .i64 2, .bool true, .bool true, .bool true, .int .u32 seq2, .nils]), (3, .row 8 67 (heads3.map THeader.c))]) (next' := 4) [] [] rfl rfl rfl rfl rfl rfl (clone_okT (c := THeader.c) mixed i27 heads3 (by decide) (by omega) (by omega)) (.inl rfl) rfl rfl rfl ?_
 refine RD.q (.agg [.int .i64 1500, .int .i64 2, .bool true, .bool true, .bool true, .int .u32 seq2, .nils]) ?_
 refine RD.q (.agg [.int .u32 own0, .int .u32 peer1, .int .i64 0, .bool false, .int .u32 seq2, .own 3 8 0 heads3.length, .nils, .int .i64 1500, .int .i64 2, .bool true, .bool true, .bool true, .int .u32 seq2, .nils]) ?_
 refine RD.q (.agg [.int .i64 1500, .int .i64 2, .bool true, .bool true, .bool true, .int .u32 seq2, .nils]) ?_
 refine RD.step0 (heap' := [(0, .box [.int .u32 own0, .int .u32 peer1, .int .i64 0, .bool false, .int .u32 seq2, .own 3 8 0 heads3.length, .nils, .int .i64 1500, .int .i64 2, .bool true, .bool true, .bool true, .int .u32 seq2, .nils]), (1, .box [.int .i64 0, .int .i64 0, .bool false, .bool false, .bool false, .int .u32 0, .nils]), (2, .box [.int .i64 1500, .int .i64 2, .bool true, .bool true, .bool true, .int .u32 seq2, .nils]), (3, .row 8 67 (heads3.map THeader.c))]) (next' := 4) rfl rfl rfl rfl rfl ?_
 refine RD.step0 (heap' := [(0, .box [.int .u32 own0, .int .u32 peer1, .int .i64 0, .bool false, .int .u32 seq2, .own 3 8 0 heads3.length, .nils, .int .i64 1500, .int .i64 2, .bool true, .bool true, .bool true, .int .u32 seq2, .nils]), (1, .box [.int .i64 1500, .int .i64 2, .bool true, .bool true, .bool true, .int .u32 seq2, .nils]), (2, .box [.int .i64 1500, .int .i64 2, .bool true, .bool true, .bool true, .int .u32 seq2, .nils]), (3, .row 8 67 (heads3.map THeader.c))]) (next' := 4) rfl rfl rfl rfl rfl ?_
 refine RD.done rfl ?_
 refine WK.ret ?_
 obtain rfl := Option.some.inj hR
 exact RetQ.frw [3] (.inr rfl) rfl rfl (viewGo_cons (viewP_agg (viewGo_cons rfl (viewGo_cons rfl (viewGo_cons rfl (viewGo_cons rfl (viewGo_cons rfl (viewGo_cons (view_rowT rfl rfl) (viewGo_cons rfl (viewGo_cons rfl (viewGo_cons rfl (viewGo_cons rfl (viewGo_cons rfl (viewGo_cons rfl (viewGo_cons rfl (viewGo_cons rfl viewGo_nil))))))))))))))) (viewGo_cons rfl viewGo_nil)) (.tup (.cons (.agg (.cons .refl (.cons .refl (.cons .refl (.cons .refl (.cons .refl (.cons .refl (.cons .nil (.cons .refl (.cons .refl (.cons .refl (.cons .refl (.cons .refl (.cons .refl (.cons .nil .refl))))))))))))))) (.cons (.agg (.cons .refl (.cons .refl (.cons .refl (.cons .refl (.cons .refl (.cons .refl (.cons .nil .refl)))))))) .refl)))

theorem f65_ok (t0 : TTalk) (d1 : TDesc) (R : TTalk) (hR : F65_exch_talk_send t0 d1 = R) : FnOk Try.prog 65 [.ptr 0 0, .agg (TDesc.c d1)] [(0, .box (TTalk.c t0))] 1 (.tup []) [(0, .box (TTalk.c R))] 1 := by
 refine FnOk.wk i65 rfl rfl ?_
 unfold F65_exch_talk_send at hR
 change WK _ _ _ [ac65] _ ⟨[(0, .ptr 0 0), (1, .agg (TDesc.c d1))], [(0, .box (TTalk.c t0))], 1⟩
 unfold ac65
 refine WK.sr mixed ?_
 refine GX.step (v' := .ptr 1 0) (heap' := [(0, .box (TTalk.c t0)), (1, .box (TDesc.c d1))]) (next' := 2) rfl rfl rfl rfl rfl rfl rfl ?_
 refine GX.done ?_
 refine WK.drawn mixed ?_
 iterate 3 refine RD.m rfl ?_
 iterate 2 refine RD.q (.agg (TDesc.c d1)) ?_
 refine RD.q (.ptr 0 0) ?_
 refine RD.q (.ptr 0 14) ?_
 refine RD.step0 (heap' := [(0, .box [.int .u32 t0.Session.Own, .int .u32 t0.Session.Peer, .int .i64 t0.Session.Phase, .bool t0.Session.Leads, .int .u32 t0.Session.Seq, .ro 8 (t0.Session.Left.map THeader.c), .ro 8 (t0.Session.Got.map THeader.c), .int .i64 t0.Session.Last.MTU, .int .i64 t0.Session.Last.Options, .bool t0.Session.Last.Init, .bool t0.Session.Last.More, .bool t0.Session.Last.Master, .int .u32 t0.Session.Last.Seq, .ro 8 (t0.Session.Last.Heads.map THeader.c), .int .i64 d1.MTU, .int .i64 d1.Options, .bool d1.Init, .bool d1.More, .bool d1.Master, .int .u32 d1.Seq, .ro 8 (d1.Heads.map THeader.c), .bool t0.sent, .int .i64 t0.e]), (1, .box (TDesc.c d1))]) (next' := 2) rfl rfl rfl rfl rfl ?_
 refine RD.q (.ptr 0 0) ?_
 refine RD.q (.ptr 0 21) ?_
 refine RD.step0 (heap' := [(0, .box [.int .u32 t0.Session.Own, .int .u32 t0.Session.Peer, .int .i64 t0.Session.Phase, .bool t0.Session.Leads, .int .u32 t0.Session.Seq, .ro 8 (t0.Session.Left.map THeader.c), .ro 8 (t0.Session.Got.map THeader.c), .int .i64 t0.Session.Last.MTU, .int .i64 t0.Session.Last.Options, .bool t0.Session.Last.Init, .bool t0.Session.Last.More, .bool t0.Session.Last.Master, .int .u32 t0.Session.Last.Seq, .ro 8 (t0.Session.Last.Heads.map THeader.c), .int .i64 d1.MTU, .int .i64 d1.Options, .bool d1.Init, .bool d1.More, .bool d1.Master, .int .u32 d1.Seq, .ro 8 (d1.Heads.map THeader.c), .bool true, .int .i64 t0.e]), (1, .box (TDesc.c d1))]) (next' := 2) rfl rfl rfl rfl rfl ?_
 iterate 2 refine RD.q (.ptr 0 0) ?_
 refine RD.q (.ptr 0 7) ?_
 refine RD.step0 (heap' := [(0, .box [.int .u32 t0.Session.Own, .int .u32 t0.Session.Peer, .int .i64 t0.Session.Phase, .bool t0.Session.Leads, .int .u32 t0.Session.Seq, .ro 8 (t0.Session.Left.map THeader.c), .ro 8 (t0.Session.Got.map THeader.c), .int .i64 d1.MTU, .int .i64 d1.Options, .bool d1.Init, .bool d1.More, .bool d1.Master, .int .u32 d1.Seq, .ro 8 (d1.Heads.map THeader.c), .int .i64 d1.MTU, .int .i64 d1.Options, .bool d1.Init, .bool d1.More, .bool d1.Master, .int .u32 d1.Seq, .ro 8 (d1.Heads.map THeader.c), .bool true, .int .i64 t0.e]), (1, .box (TDesc.c d1))]) (next' := 2) rfl rfl rfl rfl rfl ?_
 refine RD.done rfl ?_
 refine WK.nil ?_
 subst hR
 exact RetQ.ret [0] [] (.inl rfl) rfl rfl rfl rfl rfl .refl rfl

theorem f63_ok (t0 : TTalk) (R : TTalk) (hR : F63_exch_talk_page t0 = some R) : FnOk Try.prog 63 [.ptr 0 0] [(0, .box (TTalk.c t0))] 1 (.tup []) [(0, .box (TTalk.c R))] 1 := by
 refine FnOk.wk i63 rfl rfl ?_
 unfold F63_exch_talk_page at hR
 try dsimp only at hR
 change WK _ _ _ [ac63] _ ⟨[(0, .ptr 0 0)], [(0, .box (TTalk.c t0))], 1⟩
 unfold ac63
 refine WK.sr mixed ?_
 refine GX.m rfl ?_
 iterate 2 refine GX.q (.ptr 0 0) ?_
 refine GX.q (.ptr 0 5) ?_
 refine GX.q (.ro 8 (t0.Session.Left.map THeader.c)) ?_
 refine GX.pure (v' := .int .i64 (t0.Session.Left.length : Int)) rfl rfl rfl rfl (len_map _ _) ?_
 refine GX.q (.int .i64 (min_ 10 (t0.Session.Left.length : Int))) ?_
 refine GX.m rfl ?_
 refine GX.done ?_
 refine WK.seq ?_
 refine WK.drawn mixed ?_
 iterate 2 refine RD.m rfl ?_
 iterate 2 refine RD.q (.ptr 0 0) ?_
 refine RD.q (.ptr 0 5) ?_
 refine RD.q (.ro 8 (t0.Session.Left.map THeader.c)) ?_
 refine RD.pure (v' := .int .i64 (t0.Session.Left.length : Int)) rfl rfl rfl rfl (len_map _ _) ?_
 refine RD.q (.bool (decide (min_ 10 (t0.Session.Left.length : Int) < (t0.Session.Left.length : Int)))) ?_
 refine RD.m rfl ?_
 iterate 2 refine RD.q (.ptr 0 0) ?_
 refine RD.q (.ptr 0 3) ?_
 refine RD.q (.bool t0.Session.Leads) ?_
 refine RD.m rfl ?_
 iterate 2 refine RD.q (.ptr 0 0) ?_
 refine RD.q (.ptr 0 4) ?_
 refine RD.q (.int .u32 t0.Session.Seq) ?_
 refine RD.m rfl ?_
 iterate 2 refine RD.q (.ptr 0 0) ?_
 refine RD.q (.ptr 0 5) ?_
 refine RD.q (.ro 8 (t0.Session.Left.map THeader.c)) ?_
 refine RD.m rfl ?_
 rcases bool_two (decide ((0 : Int) ≤ min_ 10 (t0.Session.Left.length : Int))) with hg1 | hg1
 ·simp only [hg1, bb] at hR
  try dsimp only at hR
  cases hR
 simp only [hg1, bb] at hR
 have hg1_ := of_decide_eq_true hg1
 rcases bool_two (decide (min_ 10 (t0.Session.Left.length : Int) ≤ (t0.Session.Left.length : Int))) with hg2 | hg2
 ·simp only [hg2, bb] at hR
  try dsimp only at hR
  cases hR
 simp only [hg2, bb] at hR
 have hg2_ := of_decide_eq_true hg2
 refine RD.sliceHi (c := THeader.c) (M := (t0.Session.Left.take (min_ 10 (t0.Session.Left.length : Int)).toNat)) rfl rfl rfl (by omega) (by omega) rfl ?_
 rcases bool_two (decide ((t0.Session.Left.take (min_ 10 (t0.Session.Left.length : Int)).toNat).length < 1099511627776)) with hg3 | hg3
 ·simp only [hg3, bb] at hR
  try dsimp only at hR
  cases hR
 simp only [hg3, bb] at hR
 have hg3_ := of_decide_eq_true hg3
 refine RD.callx (r' := .own 1 8 0 (t0.Session.Left.take (min_ 10 (t0.Session.Left.length : Int)).toNat).length) (heap' := [(0, .box (TTalk.c t0)), (1, .row 8 67 ((t0.Session.Left.take (min_ 10 (t0.Session.Left.length : Int)).toNat).map THeader.c))]) (next' := 2) [] [] rfl rfl rfl rfl rfl rfl (clone_okT (c := THeader.c) mixed i27 (t0.Session.Left.take (min_ 10 (t0.Session.Left.length : Int)).toNat) (by decide) (by omega) (by omega)) (.inl rfl) rfl rfl rfl ?_
 refine RD.q (.agg [.int .i64 1500, .int .i64 2, .bool false, .bool (decide (min_ 10 (t0.Session.Left.length : Int) < (t0.Session.Left.length : Int))), .bool t0.Session.Leads, .int .u32 t0.Session.Seq, .own 1 8 0 (t0.Session.Left.take (min_ 10 (t0.Session.Left.length : Int)).toNat).length]) ?_
 refine RD.step (v' := .ptr 2 0) (heap' := [(0, .box (TTalk.c t0)), (1, .row 8 67 ((t0.Session.Left.take (min_ 10 (t0.Session.Left.length : Int)).toNat).map THeader.c)), (2, .box [.int .i64 0, .int .i64 0, .bool false, .bool false, .bool false, .int .u32 0, .nils])]) (next' := 3) rfl rfl rfl rfl rfl rfl rfl ?_
 refine RD.step0 (heap' := [(0, .box (TTalk.c t0)), (1, .row 8 67 ((t0.Session.Left.take (min_ 10 (t0.Session.Left.length : Int)).toNat).map THeader.c)), (2, .box [.int .i64 1500, .int .i64 2, .bool false, .bool (decide (min_ 10 (t0.Session.Left.length : Int) < (t0.Session.Left.length : Int))), .bool t0.Session.Leads, .int .u32 t0.Session.Seq, .own 1 8 0 (t0.Session.Left.take (min_ 10 (t0.Session.Left.length : Int)).toNat).length])]) (next' := 3) rfl rfl rfl rfl rfl ?_
 refine RD.doneB [0, 0, 2, 6, 14, 30, 62, 127, 0, 256, 768, 1792, 3840, 0, 8192, 24576, 57344, 122880, 0, 262144, 786432, 1835008, 3932160, 0, 16515072, 33292288, 67108863, 0, 268435455] (by kernel_rfl) (by kernel_rfl) (by kernel_rfl) ?_
 refine WK.sr mixed ?_
 iterate 2 refine GX.m rfl ?_
 iterate 2 refine GX.q (.ptr 0 0) ?_
 refine GX.q (.ptr 0 5) ?_
 refine GX.q (.ro 8 (t0.Session.Left.map THeader.c)) ?_
 refine GX.m rfl ?_
 refine GX.sliceLo (c := THeader.c) (M := (t0.Session.Left.drop (min_ 10 (t0.Session.Left.length : Int)).toNat)) rfl rfl rfl (by omega) (by omega) rfl ?_
 rcases bool_two (decide ((t0.Session.Left.drop (min_ 10 (t0.Session.Left.length : Int)).toNat).length < 1099511627776)) with hg4 | hg4
 ·simp only [hg4, bb] at hR
  try dsimp only at hR
  cases hR
 simp only [hg4, bb] at hR
 have hg4_ := of_decide_eq_true hg4
 refine GX.callx (r' := .own 3 8 0 (t0.Session.Left.drop (min_ 10 (t0.Session.Left.length : Int)).toNat).length) (heap' := [(0, .box (TTalk.c t0)), (1, .row 8 67 ((t0.Session.Left.take (min_ 10 (t0.Session.Left.length : Int)).toNat).map THeader.c)), (2, .box [.int .i64 1500, .int .i64 2, .bool false, .bool (decide (min_ 10 (t0.Session.Left.length : Int) < (t0.Session.Left.length : Int))), .bool t0.Session.Leads, .int .u32 t0.Session.Seq, .own 1 8 0 (t0.Session.Left.take (min_ 10 (t0.Session.Left.length : Int)).toNat).length]), (3, .row 8 67 ((t0.Session.Left.drop (min_ 10 (t0.Session.Left.length : Int)).toNat).map THeader.c))]) (next' := 4) [] [] rfl rfl rfl rfl rfl rfl (clone_okT (c := THeader.c) mixed i27 (t0.Session.Left.drop (min_ 10 (t0.Session.Left.length : Int)).toNat) (by decide) (by omega) (by omega)) (.inl rfl) rfl rfl rfl ?_
 iterate 2 refine GX.q (.ptr 0 0) ?_
 refine GX.q (.ptr 0 5) ?_
 refine GX.step0 (heap' := [(0, .box [.int .u32 t0.Session.Own, .int .u32 t0.Session.Peer, .int .i64 t0.Session.Phase, .bool t0.Session.Leads, .int .u32 t0.Session.Seq, .own 3 8 0 (t0.Session.Left.drop (min_ 10 (t0.Session.Left.length : Int)).toNat).length, .ro 8 (t0.Session.Got.map THeader.c), .int .i64 t0.Session.Last.MTU, .int .i64 t0.Session.Last.Options, .bool t0.Session.Last.Init, .bool t0.Session.Last.More, .bool t0.Session.Last.Master, .int .u32 t0.Session.Last.Seq, .ro 8 (t0.Session.Last.Heads.map THeader.c), .int .i64 t0.out.MTU, .int .i64 t0.out.Options, .bool t0.out.Init, .bool t0.out.More, .bool t0.out.Master, .int .u32 t0.out.Seq, .ro 8 (t0.out.Heads.map THeader.c), .bool t0.sent, .int .i64 t0.e]), (1, .row 8 67 ((t0.Session.Left.take (min_ 10 (t0.Session.Left.length : Int)).toNat).map THeader.c)), (2, .box [.int .i64 1500, .int .i64 2, .bool false, .bool (decide (min_ 10 (t0.Session.Left.length : Int) < (t0.Session.Left.length : Int))), .bool t0.Session.Leads, .int .u32 t0.Session.Seq, .own 1 8 0 (t0.Session.Left.take (min_ 10 (t0.Session.Left.length : Int)).toNat).length]), (3, .row 8 67 ((t0.Session.Left.drop (min_ 10 (t0.Session.Left.length : Int)).toNat).map THeader.c))]) (next' := 4) rfl rfl rfl rfl rfl ?_
 refine GX.done ?_
 refine WK.conv (st' := ⟨[(0, .ptr 0 0), (3, .ptr 1 0)], [(0, .box [.int .u32 t0.Session.Own, .int .u32 t0.Session.Peer, .int .i64 t0.Session.Phase, .bool t0.Session.Leads, .int .u32 t0.Session.Seq, .ro 8 ((t0.Session.Left.drop (min_ 10 (t0.Session.Left.length : Int)).toNat).map THeader.c), .ro 8 (t0.Session.Got.map THeader.c), .int .i64 t0.Session.Last.MTU, .int .i64 t0.Session.Last.Options, .bool t0.Session.Last.Init, .bool t0.Session.Last.More, .bool t0.Session.Last.Master, .int .u32 t0.Session.Last.Seq, .ro 8 (t0.Session.Last.Heads.map THeader.c), .int .i64 t0.out.MTU, .int .i64 t0.out.Options, .bool t0.out.Init, .bool t0.out.More, .bool t0.out.Master, .int .u32 t0.out.Seq, .ro 8 (t0.out.Heads.map THeader.c), .bool t0.sent, .int .i64 t0.e]), (1, .box [.int .i64 1500, .int .i64 2, .bool false, .bool (decide (min_ 10 (t0.Session.Left.length : Int) < (t0.Session.Left.length : Int))), .bool t0.Session.Leads, .int .u32 t0.Session.Seq, .own 2 8 0 (t0.Session.Left.take (min_ 10 (t0.Session.Left.length : Int)).toNat).length]), (2, .row 8 67 ((t0.Session.Left.take (min_ 10 (t0.Session.Left.length : Int)).toNat).map THeader.c))], 3⟩) (Conv.keep [0, 2, 1] [3] [0, 3] rfl rfl (viewE_cons rfl rfl (viewE_cons rfl rfl viewE_nil)) (subH_cons rfl (viewO_box (viewGo_cons rfl (viewGo_cons rfl (viewGo_cons rfl (viewGo_cons rfl (viewGo_cons rfl (viewGo_cons (view_rowT rfl rfl) (viewGo_cons rfl (viewGo_cons rfl (viewGo_cons rfl (viewGo_cons rfl (viewGo_cons rfl (viewGo_cons rfl (viewGo_cons rfl (viewGo_cons rfl (viewGo_cons rfl (viewGo_cons rfl (viewGo_cons rfl (viewGo_cons rfl (viewGo_cons rfl (viewGo_cons rfl (viewGo_cons rfl (viewGo_cons rfl (viewGo_cons rfl viewGo_nil)))))))))))))))))))))))) (subH_cons rfl rfl (subH_cons rfl rfl subH_nil))) rfl) ?_ (by simp)
 refine WK.conv (st' := ⟨[(0, .ptr 0 0), (3, .ptr 1 0)], [(0, .box [.int .u32 t0.Session.Own, .int .u32 t0.Session.Peer, .int .i64 t0.Session.Phase, .bool t0.Session.Leads, .int .u32 t0.Session.Seq, .ro 8 ((t0.Session.Left.drop (min_ 10 (t0.Session.Left.length : Int)).toNat).map THeader.c), .ro 8 (t0.Session.Got.map THeader.c), .int .i64 t0.Session.Last.MTU, .int .i64 t0.Session.Last.Options, .bool t0.Session.Last.Init, .bool t0.Session.Last.More, .bool t0.Session.Last.Master, .int .u32 t0.Session.Last.Seq, .ro 8 (t0.Session.Last.Heads.map THeader.c), .int .i64 t0.out.MTU, .int .i64 t0.out.Options, .bool t0.out.Init, .bool t0.out.More, .bool t0.out.Master, .int .u32 t0.out.Seq, .ro 8 (t0.out.Heads.map THeader.c), .bool t0.sent, .int .i64 t0.e]), (1, .box [.int .i64 1500, .int .i64 2, .bool false, .bool (decide (min_ 10 (t0.Session.Left.length : Int) < (t0.Session.Left.length : Int))), .bool t0.Session.Leads, .int .u32 t0.Session.Seq, .ro 8 ((t0.Session.Left.take (min_ 10 (t0.Session.Left.length : Int)).toNat).map THeader.c)])], 2⟩) (Conv.keep [0, 1] [2] [0, 3] rfl rfl (viewE_cons rfl rfl (viewE_cons rfl rfl viewE_nil)) (subH_cons rfl rfl (subH_cons rfl (viewO_box (viewGo_cons rfl (viewGo_cons rfl (viewGo_cons rfl (viewGo_cons rfl (viewGo_cons rfl (viewGo_cons rfl (viewGo_cons (view_rowT rfl rfl) viewGo_nil)))))))) subH_nil)) rfl) ?_ (by simp)
 refine WK.regx mixed ?_
 refine GX.m rfl ?_
 refine GX.q (.agg [.int .i64 1500, .int .i64 2, .bool false, .bool (decide (min_ 10 (t0.Session.Left.length : Int) < (t0.Session.Left.length : Int))), .bool t0.Session.Leads, .int .u32 t0.Session.Seq, .ro 8 ((t0.Session.Left.take (min_ 10 (t0.Session.Left.length : Int)).toNat).map THeader.c)]) ?_
 generalize hc52 : F65_exch_talk_send (⟨(⟨t0.Session.Own, t0.Session.Peer, t0.Session.Phase, t0.Session.Leads, t0.Session.Seq, (t0.Session.Left.drop (min_ 10 (t0.Session.Left.length : Int)).toNat), t0.Session.Got, t0.Session.Last⟩ : TSession), t0.out, t0.sent, t0.e⟩ : TTalk) (⟨1500, 2, false, decide (min_ 10 (t0.Session.Left.length : Int) < (t0.Session.Left.length : Int)), t0.Session.Leads, t0.Session.Seq, (t0.Session.Left.take (min_ 10 (t0.Session.Left.length : Int)).toNat)⟩ : TDesc) = c52 at hR
 try dsimp only at hR
 refine GX.callx (r' := .tup []) (heap' := [(0, .box (TTalk.c c52)), (1, .box [.int .i64 1500, .int .i64 2, .bool false, .bool (decide (min_ 10 (t0.Session.Left.length : Int) < (t0.Session.Left.length : Int))), .bool t0.Session.Leads, .int .u32 t0.Session.Seq, .ro 8 ((t0.Session.Left.take (min_ 10 (t0.Session.Left.length : Int)).toNat).map THeader.c)])]) (next' := 2) [0] [] rfl rfl rfl rfl rfl rfl (f65_ok (⟨(⟨t0.Session.Own, t0.Session.Peer, t0.Session.Phase, t0.Session.Leads, t0.Session.Seq, (t0.Session.Left.drop (min_ 10 (t0.Session.Left.length : Int)).toNat), t0.Session.Got, t0.Session.Last⟩ : TSession), t0.out, t0.sent, t0.e⟩ : TTalk) (⟨1500, 2, false, decide (min_ 10 (t0.Session.Left.length : Int) < (t0.Session.Left.length : Int)), t0.Session.Leads, t0.Session.Seq, (t0.Session.Left.take (min_ 10 (t0.Session.Left.length : Int)).toNat)⟩ : TDesc) _ hc52) (.inl rfl) rfl rfl rfl ?_
 refine GX.done ?_
 refine WK.nil ?_
 obtain rfl := Option.some.inj hR
 exact RetQ.ret [0] [] (.inl rfl) rfl rfl rfl rfl rfl .refl rfl

theorem f64_ok (t0 : TTalk) (d1 : TDesc) (R : TTalk) (hR : F64_exch_talk_take t0 d1 = some R) : FnOk Try.prog 64 [.ptr 0 0, .agg (TDesc.c d1)] [(0, .box (TTalk.c t0))] 1 (.tup []) [(0, .box (TTalk.c R))] 1 := by
 refine FnOk.wk i64 rfl rfl ?_
 unfold F64_exch_talk_take at hR
 try dsimp only at hR
 change WK _ _ _ [ac64] _ ⟨[(0, .ptr 0 0), (1, .agg (TDesc.c d1))], [(0, .box (TTalk.c t0))], 1⟩
 unfold ac64
 refine WK.sr mixed ?_
 refine GX.step (v' := .ptr 1 0) (heap' := [(0, .box (TTalk.c t0)), (1, .box (TDesc.c d1))]) (next' := 2) rfl rfl rfl rfl rfl rfl rfl ?_
 refine GX.done ?_
 refine WK.drawn mixed ?_
 iterate 2 refine RD.m rfl ?_
 iterate 2 refine RD.q (.ptr 0 0) ?_
 refine RD.q (.ptr 0 6) ?_
 refine RD.q (.ro 8 (t0.Session.Got.map THeader.c)) ?_
 refine RD.q (.ptr 1 6) ?_
 refine RD.q (.ro 8 (d1.Heads.map THeader.c)) ?_
 refine RD.bsro (es := (([t0.Session.Got, d1.Heads] : List (List THeader))).map (c_row 8 THeader.c)) rfl rfl rfl rfl ?_
 rcases bool_two (decide (t0.Session.Got.length < 1099511627776)) with hg1 | hg1
 ·simp only [hg1, bb] at hR
  try dsimp only at hR
  cases hR
 simp only [hg1, bb] at hR
 have hg1_ := of_decide_eq_true hg1
 rcases bool_two (decide (d1.Heads.length < 1099511627776)) with hg2 | hg2
 ·simp only [hg2, bb] at hR
  try dsimp only at hR
  cases hR
 simp only [hg2, bb] at hR
 have hg2_ := of_decide_eq_true hg2
 refine RD.callp (r := .ro 8 ((t0.Session.Got ++ d1.Heads).map THeader.c)) rfl rfl rfl (concat_okF (c := THeader.c) mixed i79 i83 t0.Session.Got d1.Heads (by decide) (by omega) (by omega)) rfl rfl ?_
 iterate 2 refine RD.q (.ptr 0 0) ?_
 refine RD.q (.ptr 0 6) ?_
 refine RD.step0 (heap' := [(0, .box [.int .u32 t0.Session.Own, .int .u32 t0.Session.Peer, .int .i64 t0.Session.Phase, .bool t0.Session.Leads, .int .u32 t0.Session.Seq, .ro 8 (t0.Session.Left.map THeader.c), .ro 8 ((t0.Session.Got ++ d1.Heads).map THeader.c), .int .i64 t0.Session.Last.MTU, .int .i64 t0.Session.Last.Options, .bool t0.Session.Last.Init, .bool t0.Session.Last.More, .bool t0.Session.Last.Master, .int .u32 t0.Session.Last.Seq, .ro 8 (t0.Session.Last.Heads.map THeader.c), .int .i64 t0.out.MTU, .int .i64 t0.out.Options, .bool t0.out.Init, .bool t0.out.More, .bool t0.out.Master, .int .u32 t0.out.Seq, .ro 8 (t0.out.Heads.map THeader.c), .bool t0.sent, .int .i64 t0.e]), (1, .box (TDesc.c d1))]) (next' := 2) rfl rfl rfl rfl rfl ?_
 refine RD.done rfl ?_
 refine WK.nil ?_
 obtain rfl := Option.some.inj hR
 exact RetQ.ret [0] [] (.inl rfl) rfl rfl rfl rfl rfl .refl rfl

theorem f46_ok (t0 : TTalk) (d1 : TDesc) (R : TTalk) (hR : F46_exch_talk_lead t0 d1 = some R) : FnOk Try.prog 46 [.ptr 0 0, .agg (TDesc.c d1)] [(0, .box (TTalk.c t0))] 1 (.tup []) [(0, .box (TTalk.c R))] 1 := by
 refine FnOk.wk i46 rfl rfl ?_
 unfold F46_exch_talk_lead at hR
 try dsimp only at hR
 change WK _ _ _ [ac46] _ ⟨[(0, .ptr 0 0), (1, .agg (TDesc.c d1))], [(0, .box (TTalk.c t0))], 1⟩
 unfold ac46
 refine WK.sr mixed ?_
 refine GX.step (v' := .ptr 1 0) (heap' := [(0, .box (TTalk.c t0)), (1, .box (TDesc.c d1))]) (next' := 2) rfl rfl rfl rfl rfl rfl rfl ?_
 refine GX.done ?_
 refine WK.seq ?_
 refine WK.blockK (fun _ hK1 => ?_)
 refine WK.seq ?_
 refine WK.drawn mixed ?_
 refine RD.q (.ptr 1 5) ?_
 refine RD.q (.int .u32 d1.Seq) ?_
 refine RD.m rfl ?_
 iterate 2 refine RD.q (.ptr 0 0) ?_
 refine RD.q (.ptr 0 4) ?_
 refine RD.q (.int .u32 t0.Session.Seq) ?_
 refine RD.q (.int .u32 (IntKind.u32.wrap (t0.Session.Seq - 1))) ?_
 refine RD.q (.bool (decide (d1.Seq = IntKind.u32.wrap (t0.Session.Seq - 1)))) ?_
 refine RD.m rfl ?_
 rcases bool_two (decide (d1.Seq = IntKind.u32.wrap (t0.Session.Seq - 1))) with hb2 | hb2
 ·rw [hb2]; first | replace hR := cond_f hb2 hR | (try simp only [hb2, bb] at hR)
  refine RD.q (.ptr 1 5) ?_
  refine RD.q (.int .u32 d1.Seq) ?_
  refine RD.m rfl ?_
  iterate 2 refine RD.q (.ptr 0 0) ?_
  refine RD.q (.ptr 0 4) ?_
  refine RD.q (.int .u32 t0.Session.Seq) ?_
  refine RD.q (.bool (decide (d1.Seq = t0.Session.Seq))) ?_
  refine RD.m rfl ?_
  rcases bool_two (decide (d1.Seq = t0.Session.Seq)) with hb3 | hb3
  ·rw [hb3]; first | replace hR := cond_f hb3 hR | (try simp only [hb3, bb] at hR)
   iterate 6 refine RD.skip rfl rfl ?_
   iterate 2 refine RD.q (.bool false) ?_
   refine RD.m rfl ?_
   refine RD.doneB [0, 1, 0, 4, 12, 28, 60, 124, 255, 511, 1023, 2047, 1023, 5119, 13311, 29695, 62463, 131071, 262143, 524287, 1048575, 2097151, 4194303, 8388607, 16777215, 33554431, 67108863, 134217727] (by kernel_rfl) (by kernel_rfl) (by kernel_rfl) ?_
   refine WK.condF rfl ?_
   refine WK.seq ?_
   refine WK.drawn mixed ?_
   refine RD.q (.ptr 1 5) ?_
   refine RD.q (.int .u32 d1.Seq) ?_
   refine RD.m rfl ?_
   iterate 2 refine RD.q (.ptr 0 0) ?_
   refine RD.q (.ptr 0 4) ?_
   refine RD.q (.int .u32 t0.Session.Seq) ?_
   refine RD.q (.bool (!decide (d1.Seq = t0.Session.Seq))) ?_
   refine RD.m rfl ?_
   refine RD.done rfl ?_
   rw [hb3]
   refine WK.condT rfl ?_
   refine WK.sr mixed ?_
   refine GX.m rfl ?_
   refine GX.q (.ptr 0 0) ?_
   refine GX.q (.ptr 0 22) ?_
   refine GX.step0 (heap' := [(0, .box [.int .u32 t0.Session.Own, .int .u32 t0.Session.Peer, .int .i64 t0.Session.Phase, .bool t0.Session.Leads, .int .u32 t0.Session.Seq, .ro 8 (t0.Session.Left.map THeader.c), .ro 8 (t0.Session.Got.map THeader.c), .int .i64 t0.Session.Last.MTU, .int .i64 t0.Session.Last.Options, .bool t0.Session.Last.Init, .bool t0.Session.Last.More, .bool t0.Session.Last.Master, .int .u32 t0.Session.Last.Seq, .ro 8 (t0.Session.Last.Heads.map THeader.c), .int .i64 t0.out.MTU, .int .i64 t0.out.Options, .bool t0.out.Init, .bool t0.out.More, .bool t0.out.Master, .int .u32 t0.out.Seq, .ro 8 (t0.out.Heads.map THeader.c), .bool t0.sent, .int .i64 13]), (1, .box (TDesc.c d1))]) (next' := 2) rfl rfl rfl rfl rfl ?_
   refine GX.done ?_
   refine WK.ret ?_
   refine QF.ret ?_
   obtain rfl := Option.some.inj hR
   exact RetQ.ret [0] [] (.inr rfl) rfl rfl rfl rfl rfl .refl rfl
  ·rw [hb3]; first | replace hR := cond_t hb3 hR | (try simp only [hb3, bb] at hR)
   refine RD.m rfl ?_
   iterate 2 refine RD.q (.ptr 0 0) ?_
   refine RD.q (.ptr 0 2) ?_
   refine RD.q (.int .i64 t0.Session.Phase) ?_
   iterate 3 refine RD.q (.bool (decide (t0.Session.Phase = 2))) ?_
   refine RD.m rfl ?_
   refine RD.doneB [0, 1, 0, 4, 12, 28, 60, 124, 255, 511, 1023, 2047, 1023, 5119, 13311, 29695, 62463, 131071, 262143, 524287, 1048575, 2097151, 4194303, 8388607, 16777215, 33554431, 67108863, 134217727] (by kernel_rfl) (by kernel_rfl) (by kernel_rfl) ?_
   rcases bool_two (decide (t0.Session.Phase = 2)) with hb4 | hb4
   ·rw [hb4]; first | replace hR := cond_f hb4 hR | (try simp only [hb4, bb] at hR)
    refine WK.condF rfl ?_
    refine WK.seq ?_
    refine WK.drawn mixed ?_
    refine RD.q (.ptr 1 5) ?_
    refine RD.q (.int .u32 d1.Seq) ?_
    refine RD.m rfl ?_
    iterate 2 refine RD.q (.ptr 0 0) ?_
    refine RD.q (.ptr 0 4) ?_
    refine RD.q (.int .u32 t0.Session.Seq) ?_
    refine RD.q (.bool (!decide (d1.Seq = t0.Session.Seq))) ?_
    refine RD.m rfl ?_
    refine RD.done rfl ?_
    rw [hb3]
    refine WK.condF rfl ?_
    refine WK.skip ?_
    refine WK.nil (QF.normal (hK1 _ ?_))
    refine WK.sr mixed ?_
    refine GX.m rfl ?_
    refine GX.q (.agg (TDesc.c d1)) ?_
    generalize hc46 : F64_exch_talk_take t0 d1 = c46 at hR
    rcases c46 with _ | c46
    ·try dsimp only at hR
     cases hR
    try dsimp only at hR
    try dsimp only at hR
    refine GX.callx (r' := .tup []) (heap' := [(0, .box (TTalk.c c46)), (1, .box (TDesc.c d1))]) (next' := 2) [0] [] rfl rfl rfl rfl rfl rfl (f64_ok t0 d1 _ hc46) (.inl rfl) rfl rfl rfl ?_
    refine GX.done ?_
    refine WK.seq ?_
    refine WK.sr mixed ?_
    refine GX.m rfl ?_
    iterate 2 refine GX.q (.ptr 0 0) ?_
    refine GX.q (.ptr 0 7) ?_
    refine GX.q (.ptr 0 10) ?_
    refine GX.q (.bool c46.Session.Last.More) ?_
    refine GX.q (.bool (!c46.Session.Last.More)) ?_
    refine GX.m rfl ?_
    rcases bool_two (c46.Session.Last.More) with hb6 | hb6
    ·rw [hb6]; first | replace hR := cond_f hb6 hR | (try simp only [hb6, bb] at hR)
     refine GX.q (.ptr 1 3) ?_
     refine GX.q (.bool d1.More) ?_
     iterate 2 refine GX.q (.bool (!d1.More)) ?_
     refine GX.done ?_
     rcases bool_two (d1.More) with hb7 | hb7
     ·rw [hb7]; first | replace hR := cond_f hb7 hR | (try simp only [hb7, bb] at hR)
      refine WK.condT rfl ?_
      refine WK.sr mixed ?_
      refine GX.m rfl ?_
      iterate 2 refine GX.q (.ptr 0 0) ?_
      refine GX.q (.ptr 0 2) ?_
      refine GX.step0 (heap' := [(0, .box [.int .u32 c46.Session.Own, .int .u32 c46.Session.Peer, .int .i64 2, .bool c46.Session.Leads, .int .u32 c46.Session.Seq, .ro 8 (c46.Session.Left.map THeader.c), .ro 8 (c46.Session.Got.map THeader.c), .int .i64 c46.Session.Last.MTU, .int .i64 c46.Session.Last.Options, .bool c46.Session.Last.Init, .bool c46.Session.Last.More, .bool c46.Session.Last.Master, .int .u32 c46.Session.Last.Seq, .ro 8 (c46.Session.Last.Heads.map THeader.c), .int .i64 c46.out.MTU, .int .i64 c46.out.Options, .bool c46.out.Init, .bool c46.out.More, .bool c46.out.Master, .int .u32 c46.out.Seq, .ro 8 (c46.out.Heads.map THeader.c), .bool c46.sent, .int .i64 c46.e]), (1, .box (TDesc.c d1))]) (next' := 2) rfl rfl rfl rfl rfl ?_
      refine GX.done ?_
      refine WK.ret ?_
      obtain rfl := Option.some.inj hR
      exact RetQ.ret [0] [] (.inr rfl) rfl rfl rfl rfl rfl .refl rfl
     ·rw [hb7]; first | replace hR := cond_t hb7 hR | (try simp only [hb7, bb] at hR)
      refine WK.condF rfl ?_
      refine WK.skip ?_
      refine WK.sr mixed ?_
      refine GX.m rfl ?_
      iterate 2 refine GX.q (.ptr 0 0) ?_
      refine GX.q (.ptr 0 4) ?_
      refine GX.q (.int .u32 c46.Session.Seq) ?_
      refine GX.q (.int .u32 (IntKind.u32.wrap (c46.Session.Seq + 1))) ?_
      iterate 2 refine GX.q (.ptr 0 0) ?_
      refine GX.q (.ptr 0 4) ?_
      refine GX.step0 (heap' := [(0, .box [.int .u32 c46.Session.Own, .int .u32 c46.Session.Peer, .int .i64 c46.Session.Phase, .bool c46.Session.Leads, .int .u32 (IntKind.u32.wrap (c46.Session.Seq + 1)), .ro 8 (c46.Session.Left.map THeader.c), .ro 8 (c46.Session.Got.map THeader.c), .int .i64 c46.Session.Last.MTU, .int .i64 c46.Session.Last.Options, .bool c46.Session.Last.Init, .bool c46.Session.Last.More, .bool c46.Session.Last.Master, .int .u32 c46.Session.Last.Seq, .ro 8 (c46.Session.Last.Heads.map THeader.c), .int .i64 c46.out.MTU, .int .i64 c46.out.Options, .bool c46.out.Init, .bool c46.out.More, .bool c46.out.Master, .int .u32 c46.out.Seq, .ro 8 (c46.out.Heads.map THeader.c), .bool c46.sent, .int .i64 c46.e]), (1, .box (TDesc.c d1))]) (next' := 2) rfl rfl rfl rfl rfl ?_
      refine GX.done ?_
      refine WK.regx mixed ?_
      refine GX.m rfl ?_
      generalize hc73 : F63_exch_talk_page (⟨(⟨c46.Session.Own, c46.Session.Peer, c46.Session.Phase, c46.Session.Leads, IntKind.u32.wrap (c46.Session.Seq + 1), c46.Session.Left, c46.Session.Got, c46.Session.Last⟩ : TSession), c46.out, c46.sent, c46.e⟩ : TTalk) = c73 at hR
      rcases c73 with _ | c73
      ·try dsimp only at hR
       cases hR
      try dsimp only at hR
      try dsimp only at hR
      refine GX.callx (r' := .tup []) (heap' := [(0, .box (TTalk.c c73)), (1, .box (TDesc.c d1))]) (next' := 2) [0] [] rfl rfl rfl rfl rfl rfl (f63_ok (⟨(⟨c46.Session.Own, c46.Session.Peer, c46.Session.Phase, c46.Session.Leads, IntKind.u32.wrap (c46.Session.Seq + 1), c46.Session.Left, c46.Session.Got, c46.Session.Last⟩ : TSession), c46.out, c46.sent, c46.e⟩ : TTalk) _ hc73) (.inl rfl) rfl rfl rfl ?_
      refine GX.done ?_
      refine WK.nil ?_
      obtain rfl := Option.some.inj hR
      exact RetQ.ret [0] [] (.inl rfl) rfl rfl rfl rfl rfl .refl rfl
    ·rw [hb6]; first | replace hR := cond_t hb6 hR | (try simp only [hb6, bb] at hR)
     iterate 3 refine GX.skip rfl rfl ?_
     refine GX.q (.bool false) ?_
     refine GX.done ?_
     refine WK.condF rfl ?_
     refine WK.skip ?_
     refine WK.sr mixed ?_
     refine GX.m rfl ?_
     iterate 2 refine GX.q (.ptr 0 0) ?_
     refine GX.q (.ptr 0 4) ?_
     refine GX.q (.int .u32 c46.Session.Seq) ?_
     refine GX.q (.int .u32 (IntKind.u32.wrap (c46.Session.Seq + 1))) ?_
     iterate 2 refine GX.q (.ptr 0 0) ?_
     refine GX.q (.ptr 0 4) ?_
     refine GX.step0 (heap' := [(0, .box [.int .u32 c46.Session.Own, .int .u32 c46.Session.Peer, .int .i64 c46.Session.Phase, .bool c46.Session.Leads, .int .u32 (IntKind.u32.wrap (c46.Session.Seq + 1)), .ro 8 (c46.Session.Left.map THeader.c), .ro 8 (c46.Session.Got.map THeader.c), .int .i64 c46.Session.Last.MTU, .int .i64 c46.Session.Last.Options, .bool c46.Session.Last.Init, .bool c46.Session.Last.More, .bool c46.Session.Last.Master, .int .u32 c46.Session.Last.Seq, .ro 8 (c46.Session.Last.Heads.map THeader.c), .int .i64 c46.out.MTU, .int .i64 c46.out.Options, .bool c46.out.Init, .bool c46.out.More, .bool c46.out.Master, .int .u32 c46.out.Seq, .ro 8 (c46.out.Heads.map THeader.c), .bool c46.sent, .int .i64 c46.e]), (1, .box (TDesc.c d1))]) (next' := 2) rfl rfl rfl rfl rfl ?_
     refine GX.done ?_
     refine WK.regx mixed ?_
     refine GX.m rfl ?_
     generalize hc73 : F63_exch_talk_page (⟨(⟨c46.Session.Own, c46.Session.Peer, c46.Session.Phase, c46.Session.Leads, IntKind.u32.wrap (c46.Session.Seq + 1), c46.Session.Left, c46.Session.Got, c46.Session.Last⟩ : TSession), c46.out, c46.sent, c46.e⟩ : TTalk) = c73 at hR
     rcases c73 with _ | c73
     ·try dsimp only at hR
      cases hR
     try dsimp only at hR
     try dsimp only at hR
     refine GX.callx (r' := .tup []) (heap' := [(0, .box (TTalk.c c73)), (1, .box (TDesc.c d1))]) (next' := 2) [0] [] rfl rfl rfl rfl rfl rfl (f63_ok (⟨(⟨c46.Session.Own, c46.Session.Peer, c46.Session.Phase, c46.Session.Leads, IntKind.u32.wrap (c46.Session.Seq + 1), c46.Session.Left, c46.Session.Got, c46.Session.Last⟩ : TSession), c46.out, c46.sent, c46.e⟩ : TTalk) _ hc73) (.inl rfl) rfl rfl rfl ?_
     refine GX.done ?_
     refine WK.nil ?_
     obtain rfl := Option.some.inj hR
     exact RetQ.ret [0] [] (.inl rfl) rfl rfl rfl rfl rfl .refl rfl
   ·rw [hb4]; first | replace hR := cond_t hb4 hR | (try simp only [hb4, bb] at hR)
    refine WK.condT rfl ?_
    refine WK.ret ?_
    refine QF.ret ?_
    obtain rfl := Option.some.inj hR
    exact RetQ.ret [0] [] (.inr rfl) rfl rfl rfl rfl rfl .refl rfl
 ·rw [hb2]; first | replace hR := cond_t hb2 hR | (try simp only [hb2, bb] at hR)
  iterate 16 refine RD.skip rfl rfl ?_
  refine RD.q (.bool true) ?_
  refine RD.m rfl ?_
  refine RD.doneB [0, 1, 0, 4, 12, 28, 60, 124, 255, 511, 1023, 2047, 1023, 5119, 13311, 29695, 62463, 131071, 262143, 524287, 1048575, 2097151, 4194303, 8388607, 16777215, 33554431, 67108863, 134217727] (by kernel_rfl) (by kernel_rfl) (by kernel_rfl) ?_
  refine WK.condT rfl ?_
  refine WK.ret ?_
  refine QF.ret ?_
  obtain rfl := Option.some.inj hR
  exact RetQ.ret [0] [] (.inr rfl) rfl rfl rfl rfl rfl .refl rfl

theorem f44_ok (t0 : TTalk) (d1 : TDesc) (R : TTalk) (hR : F44_exch_talk_begin t0 d1 = some R) : FnOk Try.prog 44 [.ptr 0 0, .agg (TDesc.c d1)] [(0, .box (TTalk.c t0))] 1 (.tup []) [(0, .box (TTalk.c R))] 1 := by
 refine FnOk.wk i44 rfl rfl ?_
 unfold F44_exch_talk_begin at hR
 try dsimp only at hR
 change WK _ _ _ [ac44] _ ⟨[(0, .ptr 0 0), (1, .agg (TDesc.c d1))], [(0, .box (TTalk.c t0))], 1⟩
 unfold ac44
 refine WK.sr mixed ?_
 refine GX.step (v' := .ptr 1 0) (heap' := [(0, .box (TTalk.c t0)), (1, .box (TDesc.c d1))]) (next' := 2) rfl rfl rfl rfl rfl rfl rfl ?_
 refine GX.done ?_
 refine WK.sr mixed ?_
 refine GX.q (.ptr 1 2) ?_
 refine GX.q (.bool d1.Init) ?_
 refine GX.m rfl ?_
 rcases bool_two (d1.Init) with hb1 | hb1
 ·rw [hb1]; first | replace hR := cond_f hb1 hR | (try simp only [hb1, bb] at hR)
  iterate 2 refine GX.skip rfl rfl ?_
  refine GX.q (.bool false) ?_
  refine GX.m rfl ?_
  iterate 2 refine GX.skip rfl rfl ?_
  refine GX.q (.bool false) ?_
  refine GX.m rfl ?_
  iterate 4 refine GX.skip rfl rfl ?_
  refine GX.q (.bool false) ?_
  refine GX.m rfl ?_
  refine GX.done ?_
  refine WK.seq ?_
  refine WK.drawn mixed ?_
  refine RD.q (.ptr 1 2) ?_
  refine RD.pure (v' := .bool false) rfl rfl rfl rfl (congrArg PVal.bool hb1) ?_
  refine RD.q (.bool true) ?_
  refine RD.m rfl ?_
  refine RD.q (.ptr 1 4) ?_
  refine RD.q (.bool d1.Master) ?_
  iterate 2 refine RD.q (.bool (!d1.Master)) ?_
  refine RD.m rfl ?_
  rcases bool_two (d1.Master) with hb2 | hb2
  ·rw [hb2]; first | replace hR := cond_f hb2 hR | (try simp only [hb2, bb] at hR)
   refine RD.q (.ptr 1 5) ?_
   refine RD.q (.int .u32 d1.Seq) ?_
   refine RD.m rfl ?_
   iterate 2 refine RD.q (.ptr 0 0) ?_
   refine RD.q (.ptr 0 4) ?_
   refine RD.q (.int .u32 t0.Session.Seq) ?_
   iterate 2 refine RD.q (.bool (decide (d1.Seq = t0.Session.Seq))) ?_
   refine RD.m rfl ?_
   refine RD.done rfl ?_
   refine WK.blockK (fun _ hK3 => ?_)
   refine WK.seq ?_
   refine WK.drawn mixed ?_
   iterate 2 refine RD.m rfl ?_
   iterate 11 refine RD.skip rfl rfl ?_
   refine RD.q (.bool false) ?_
   refine RD.m rfl ?_
   refine RD.done rfl ?_
   refine WK.condF rfl ?_
   refine WK.seq ?_
   refine WK.drawn mixed ?_
   iterate 2 refine RD.m rfl ?_
   rcases bool_two (decide (d1.Seq = t0.Session.Seq)) with hb4 | hb4
   ·rw [hb4]; first | replace hR := cond_f hb4 hR | (try simp only [hb4, bb] at hR)
    iterate 11 refine RD.skip rfl rfl ?_
    refine RD.q (.bool false) ?_
    refine RD.m rfl ?_
    refine RD.done rfl ?_
    refine WK.condF rfl ?_
    refine WK.skip ?_
    refine WK.nil (QF.normal (hK3 _ ?_))
    refine WK.nil ?_
    obtain rfl := Option.some.inj hR
    exact RetQ.ret [0] [] (.inl rfl) rfl rfl rfl rfl rfl .refl rfl
   ·rw [hb4]; first | replace hR := cond_t hb4 hR | (try simp only [hb4, bb] at hR)
    refine RD.m rfl ?_
    iterate 2 refine RD.q (.ptr 0 0) ?_
    refine RD.q (.ptr 0 1) ?_
    refine RD.q (.int .u32 t0.Session.Peer) ?_
    refine RD.m rfl ?_
    iterate 3 refine RD.q (.ptr 0 0) ?_
    refine RD.q (.int .u32 t0.Session.Own) ?_
    iterate 2 refine RD.q (.bool (decide (t0.Session.Peer < t0.Session.Own))) ?_
    refine RD.m rfl ?_
    refine RD.done rfl ?_
    rcases bool_two (decide (t0.Session.Peer < t0.Session.Own)) with hb5 | hb5
    ·rw [hb5]; first | replace hR := cond_f hb5 hR | (try simp only [hb5, bb] at hR)
     refine WK.condF rfl ?_
     refine WK.skip ?_
     refine WK.nil (QF.normal (hK3 _ ?_))
     refine WK.nil ?_
     obtain rfl := Option.some.inj hR
     exact RetQ.ret [0] [] (.inl rfl) rfl rfl rfl rfl rfl .refl rfl
    ·rw [hb5]; first | replace hR := cond_t hb5 hR | (try simp only [hb5, bb] at hR)
     refine WK.condT rfl ?_
     refine WK.sr mixed ?_
     iterate 2 refine GX.m rfl ?_
     iterate 2 refine GX.q (.ptr 0 0) ?_
     refine GX.q (.ptr 0 2) ?_
     refine GX.step0 (heap' := [(0, .box [.int .u32 t0.Session.Own, .int .u32 t0.Session.Peer, .int .i64 1, .bool t0.Session.Leads, .int .u32 t0.Session.Seq, .ro 8 (t0.Session.Left.map THeader.c), .ro 8 (t0.Session.Got.map THeader.c), .int .i64 t0.Session.Last.MTU, .int .i64 t0.Session.Last.Options, .bool t0.Session.Last.Init, .bool t0.Session.Last.More, .bool t0.Session.Last.Master, .int .u32 t0.Session.Last.Seq, .ro 8 (t0.Session.Last.Heads.map THeader.c), .int .i64 t0.out.MTU, .int .i64 t0.out.Options, .bool t0.out.Init, .bool t0.out.More, .bool t0.out.Master, .int .u32 t0.out.Seq, .ro 8 (t0.out.Heads.map THeader.c), .bool t0.sent, .int .i64 t0.e]), (1, .box (TDesc.c d1))]) (next' := 2) rfl rfl rfl rfl rfl ?_
     iterate 2 refine GX.q (.ptr 0 0) ?_
     refine GX.q (.ptr 0 3) ?_
     refine GX.step0 (heap' := [(0, .box [.int .u32 t0.Session.Own, .int .u32 t0.Session.Peer, .int .i64 1, .bool true, .int .u32 t0.Session.Seq, .ro 8 (t0.Session.Left.map THeader.c), .ro 8 (t0.Session.Got.map THeader.c), .int .i64 t0.Session.Last.MTU, .int .i64 t0.Session.Last.Options, .bool t0.Session.Last.Init, .bool t0.Session.Last.More, .bool t0.Session.Last.Master, .int .u32 t0.Session.Last.Seq, .ro 8 (t0.Session.Last.Heads.map THeader.c), .int .i64 t0.out.MTU, .int .i64 t0.out.Options, .bool t0.out.Init, .bool t0.out.More, .bool t0.out.Master, .int .u32 t0.out.Seq, .ro 8 (t0.out.Heads.map THeader.c), .bool t0.sent, .int .i64 t0.e]), (1, .box (TDesc.c d1))]) (next' := 2) rfl rfl rfl rfl rfl ?_
     refine GX.done ?_
     refine WK.regx mixed ?_
     refine GX.m rfl ?_
     refine GX.q (.agg (TDesc.c d1)) ?_
     generalize hc92 : F46_exch_talk_lead (⟨(⟨t0.Session.Own, t0.Session.Peer, 1, true, t0.Session.Seq, t0.Session.Left, t0.Session.Got, t0.Session.Last⟩ : TSession), t0.out, t0.sent, t0.e⟩ : TTalk) d1 = c92 at hR
     rcases c92 with _ | c92
     ·try dsimp only at hR
      cases hR
     try dsimp only at hR
     try dsimp only at hR
     refine GX.callx (r' := .tup []) (heap' := [(0, .box (TTalk.c c92)), (1, .box (TDesc.c d1))]) (next' := 2) [0] [] rfl rfl rfl rfl rfl rfl (f46_ok (⟨(⟨t0.Session.Own, t0.Session.Peer, 1, true, t0.Session.Seq, t0.Session.Left, t0.Session.Got, t0.Session.Last⟩ : TSession), t0.out, t0.sent, t0.e⟩ : TTalk) d1 _ hc92) (.inl rfl) rfl rfl rfl ?_
     refine GX.done ?_
     refine WK.nil (QF.normal (hK3 _ ?_))
     refine WK.nil ?_
     obtain rfl := Option.some.inj hR
     exact RetQ.ret [0] [] (.inl rfl) rfl rfl rfl rfl rfl .refl rfl
  ·rw [hb2]; first | replace hR := cond_t hb2 hR | (try simp only [hb2, bb] at hR)
   iterate 8 refine RD.skip rfl rfl ?_
   refine RD.q (.bool false) ?_
   refine RD.m rfl ?_
   refine RD.done rfl ?_
   refine WK.blockK (fun _ hK7 => ?_)
   refine WK.seq ?_
   refine WK.drawn mixed ?_
   iterate 2 refine RD.m rfl ?_
   iterate 11 refine RD.skip rfl rfl ?_
   refine RD.q (.bool false) ?_
   refine RD.m rfl ?_
   refine RD.done rfl ?_
   refine WK.condF rfl ?_
   refine WK.seq ?_
   refine WK.drawn mixed ?_
   iterate 2 refine RD.m rfl ?_
   iterate 11 refine RD.skip rfl rfl ?_
   refine RD.q (.bool false) ?_
   refine RD.m rfl ?_
   refine RD.done rfl ?_
   refine WK.condF rfl ?_
   refine WK.skip ?_
   refine WK.nil (QF.normal (hK7 _ ?_))
   refine WK.nil ?_
   obtain rfl := Option.some.inj hR
   exact RetQ.ret [0] [] (.inl rfl) rfl rfl rfl rfl rfl .refl rfl
 ·rw [hb1]; first | replace hR := cond_t hb1 hR | (try simp only [hb1, bb] at hR)
  refine GX.q (.ptr 1 3) ?_
  iterate 2 refine GX.q (.bool d1.More) ?_
  refine GX.m rfl ?_
  rcases bool_two (d1.More) with hb8 | hb8
  ·rw [hb8]; first | replace hR := cond_f hb8 hR | (try simp only [hb8, bb] at hR)
   iterate 2 refine GX.skip rfl rfl ?_
   refine GX.q (.bool false) ?_
   refine GX.m rfl ?_
   iterate 4 refine GX.skip rfl rfl ?_
   refine GX.q (.bool false) ?_
   refine GX.m rfl ?_
   refine GX.done ?_
   refine WK.seq ?_
   refine WK.drawn mixed ?_
   refine RD.q (.ptr 1 2) ?_
   refine RD.pure (v' := .bool true) rfl rfl rfl rfl (congrArg PVal.bool hb1) ?_
   refine RD.q (.bool false) ?_
   refine RD.m rfl ?_
   iterate 3 refine RD.skip rfl rfl ?_
   refine RD.q (.bool false) ?_
   refine RD.m rfl ?_
   iterate 8 refine RD.skip rfl rfl ?_
   refine RD.q (.bool false) ?_
   refine RD.m rfl ?_
   refine RD.done rfl ?_
   refine WK.blockK (fun _ hK9 => ?_)
   refine WK.seq ?_
   refine WK.drawn mixed ?_
   iterate 2 refine RD.m rfl ?_
   iterate 11 refine RD.skip rfl rfl ?_
   refine RD.q (.bool false) ?_
   refine RD.m rfl ?_
   refine RD.done rfl ?_
   refine WK.condF rfl ?_
   refine WK.seq ?_
   refine WK.drawn mixed ?_
   iterate 2 refine RD.m rfl ?_
   iterate 11 refine RD.skip rfl rfl ?_
   refine RD.q (.bool false) ?_
   refine RD.m rfl ?_
   refine RD.done rfl ?_
   refine WK.condF rfl ?_
   refine WK.skip ?_
   refine WK.nil (QF.normal (hK9 _ ?_))
   refine WK.nil ?_
   obtain rfl := Option.some.inj hR
   exact RetQ.ret [0] [] (.inl rfl) rfl rfl rfl rfl rfl .refl rfl
  ·rw [hb8]; first | replace hR := cond_t hb8 hR | (try simp only [hb8, bb] at hR)
   refine GX.q (.ptr 1 4) ?_
   iterate 2 refine GX.q (.bool d1.Master) ?_
   refine GX.m rfl ?_
   rcases bool_two (d1.Master) with hb10 | hb10
   ·rw [hb10]; first | replace hR := cond_f hb10 hR | (try simp only [hb10, bb] at hR)
    iterate 4 refine GX.skip rfl rfl ?_
    refine GX.q (.bool false) ?_
    refine GX.m rfl ?_
    refine GX.done ?_
    refine WK.seq ?_
    refine WK.drawn mixed ?_
    refine RD.q (.ptr 1 2) ?_
    refine RD.pure (v' := .bool true) rfl rfl rfl rfl (congrArg PVal.bool hb1) ?_
    refine RD.q (.bool false) ?_
    refine RD.m rfl ?_
    iterate 3 refine RD.skip rfl rfl ?_
    refine RD.q (.bool false) ?_
    refine RD.m rfl ?_
    iterate 8 refine RD.skip rfl rfl ?_
    refine RD.q (.bool false) ?_
    refine RD.m rfl ?_
    refine RD.done rfl ?_
    refine WK.blockK (fun _ hK11 => ?_)
    refine WK.seq ?_
    refine WK.drawn mixed ?_
    iterate 2 refine RD.m rfl ?_
    iterate 11 refine RD.skip rfl rfl ?_
    refine RD.q (.bool false) ?_
    refine RD.m rfl ?_
    refine RD.done rfl ?_
    refine WK.condF rfl ?_
    refine WK.seq ?_
    refine WK.drawn mixed ?_
    iterate 2 refine RD.m rfl ?_
    iterate 11 refine RD.skip rfl rfl ?_
    refine RD.q (.bool false) ?_
    refine RD.m rfl ?_
    refine RD.done rfl ?_
    refine WK.condF rfl ?_
    refine WK.skip ?_
    refine WK.nil (QF.normal (hK11 _ ?_))
    refine WK.nil ?_
    obtain rfl := Option.some.inj hR
    exact RetQ.ret [0] [] (.inl rfl) rfl rfl rfl rfl rfl .refl rfl
   ·rw [hb10]; first | replace hR := cond_t hb10 hR | (try simp only [hb10, bb] at hR)
    refine GX.q (.ptr 1 6) ?_
    refine GX.q (.ro 8 (d1.Heads.map THeader.c)) ?_
    refine GX.pure (v' := .int .i64 (d1.Heads.length : Int)) rfl rfl rfl rfl (len_map _ _) ?_
    iterate 2 refine GX.q (.bool (decide ((d1.Heads.length : Int) = 0))) ?_
    refine GX.m rfl ?_
    refine GX.done ?_
    refine WK.seq ?_
    refine WK.drawn mixed ?_
    refine RD.q (.ptr 1 2) ?_
    refine RD.pure (v' := .bool true) rfl rfl rfl rfl (congrArg PVal.bool hb1) ?_
    refine RD.q (.bool false) ?_
    refine RD.m rfl ?_
    iterate 3 refine RD.skip rfl rfl ?_
    refine RD.q (.bool false) ?_
    refine RD.m rfl ?_
    iterate 8 refine RD.skip rfl rfl ?_
    refine RD.q (.bool false) ?_
    refine RD.m rfl ?_
    refine RD.done rfl ?_
    refine WK.blockK (fun _ hK12 => ?_)
    refine WK.seq ?_
    refine WK.drawn mixed ?_
    iterate 2 refine RD.m rfl ?_
    rcases bool_two (decide ((d1.Heads.length : Int) = 0)) with hb13 | hb13
    ·rw [hb13]; first | replace hR := cond_f hb13 hR | (try simp only [hb13, bb] at hR)
     iterate 11 refine RD.skip rfl rfl ?_
     refine RD.q (.bool false) ?_
     refine RD.m rfl ?_
     refine RD.done rfl ?_
     refine WK.condF rfl ?_
     refine WK.seq ?_
     refine WK.drawn mixed ?_
     iterate 2 refine RD.m rfl ?_
     iterate 11 refine RD.skip rfl rfl ?_
     refine RD.q (.bool false) ?_
     refine RD.m rfl ?_
     refine RD.done rfl ?_
     refine WK.condF rfl ?_
     refine WK.skip ?_
     refine WK.nil (QF.normal (hK12 _ ?_))
     refine WK.nil ?_
     obtain rfl := Option.some.inj hR
     exact RetQ.ret [0] [] (.inl rfl) rfl rfl rfl rfl rfl .refl rfl
    ·rw [hb13]; first | replace hR := cond_t hb13 hR | (try simp only [hb13, bb] at hR)
     refine RD.m rfl ?_
     iterate 2 refine RD.q (.ptr 0 0) ?_
     refine RD.q (.ptr 0 1) ?_
     refine RD.q (.int .u32 t0.Session.Peer) ?_
     refine RD.m rfl ?_
     iterate 3 refine RD.q (.ptr 0 0) ?_
     refine RD.q (.int .u32 t0.Session.Own) ?_
     iterate 2 refine RD.q (.bool (decide (t0.Session.Own < t0.Session.Peer))) ?_
     refine RD.m rfl ?_
     refine RD.done rfl ?_
     rcases bool_two (decide (t0.Session.Own < t0.Session.Peer)) with hb14 | hb14
     ·rw [hb14]; first | replace hR := cond_f hb14 hR | (try simp only [hb14, bb] at hR)
      refine WK.condF rfl ?_
      refine WK.seq ?_
      refine WK.drawn mixed ?_
      iterate 2 refine RD.m rfl ?_
      iterate 11 refine RD.skip rfl rfl ?_
      refine RD.q (.bool false) ?_
      refine RD.m rfl ?_
      refine RD.done rfl ?_
      refine WK.condF rfl ?_
      refine WK.skip ?_
      refine WK.nil (QF.normal (hK12 _ ?_))
      refine WK.nil ?_
      obtain rfl := Option.some.inj hR
      exact RetQ.ret [0] [] (.inl rfl) rfl rfl rfl rfl rfl .refl rfl
     ·rw [hb14]; first | replace hR := cond_t hb14 hR | (try simp only [hb14, bb] at hR)
      refine WK.condT rfl ?_
      refine WK.seq ?_
      refine WK.drawn mixed ?_
      iterate 2 refine RD.m rfl ?_
      refine RD.q (.ptr 1 5) ?_
      refine RD.q (.int .u32 d1.Seq) ?_
      iterate 2 refine RD.q (.ptr 0 0) ?_
      refine RD.q (.ptr 0 2) ?_
      refine RD.step0 (heap' := [(0, .box [.int .u32 t0.Session.Own, .int .u32 t0.Session.Peer, .int .i64 1, .bool t0.Session.Leads, .int .u32 t0.Session.Seq, .ro 8 (t0.Session.Left.map THeader.c), .ro 8 (t0.Session.Got.map THeader.c), .int .i64 t0.Session.Last.MTU, .int .i64 t0.Session.Last.Options, .bool t0.Session.Last.Init, .bool t0.Session.Last.More, .bool t0.Session.Last.Master, .int .u32 t0.Session.Last.Seq, .ro 8 (t0.Session.Last.Heads.map THeader.c), .int .i64 t0.out.MTU, .int .i64 t0.out.Options, .bool t0.out.Init, .bool t0.out.More, .bool t0.out.Master, .int .u32 t0.out.Seq, .ro 8 (t0.out.Heads.map THeader.c), .bool t0.sent, .int .i64 t0.e]), (1, .box (TDesc.c d1))]) (next' := 2) rfl rfl rfl rfl rfl ?_
      iterate 2 refine RD.q (.ptr 0 0) ?_
      refine RD.q (.ptr 0 4) ?_
      refine RD.step0 (heap' := [(0, .box [.int .u32 t0.Session.Own, .int .u32 t0.Session.Peer, .int .i64 1, .bool t0.Session.Leads, .int .u32 d1.Seq, .ro 8 (t0.Session.Left.map THeader.c), .ro 8 (t0.Session.Got.map THeader.c), .int .i64 t0.Session.Last.MTU, .int .i64 t0.Session.Last.Options, .bool t0.Session.Last.Init, .bool t0.Session.Last.More, .bool t0.Session.Last.Master, .int .u32 t0.Session.Last.Seq, .ro 8 (t0.Session.Last.Heads.map THeader.c), .int .i64 t0.out.MTU, .int .i64 t0.out.Options, .bool t0.out.Init, .bool t0.out.More, .bool t0.out.Master, .int .u32 t0.out.Seq, .ro 8 (t0.out.Heads.map THeader.c), .bool t0.sent, .int .i64 t0.e]), (1, .box (TDesc.c d1))]) (next' := 2) rfl rfl rfl rfl rfl ?_
      refine RD.done rfl ?_
      refine WK.regx mixed ?_
      refine GX.m rfl ?_
      generalize hc66 : F63_exch_talk_page (⟨(⟨t0.Session.Own, t0.Session.Peer, 1, t0.Session.Leads, d1.Seq, t0.Session.Left, t0.Session.Got, t0.Session.Last⟩ : TSession), t0.out, t0.sent, t0.e⟩ : TTalk) = c66 at hR
      rcases c66 with _ | c66
      ·try dsimp only at hR
       cases hR
      try dsimp only at hR
      try dsimp only at hR
      refine GX.callx (r' := .tup []) (heap' := [(0, .box (TTalk.c c66)), (1, .box (TDesc.c d1))]) (next' := 2) [0] [] rfl rfl rfl rfl rfl rfl (f63_ok (⟨(⟨t0.Session.Own, t0.Session.Peer, 1, t0.Session.Leads, d1.Seq, t0.Session.Left, t0.Session.Got, t0.Session.Last⟩ : TSession), t0.out, t0.sent, t0.e⟩ : TTalk) _ hc66) (.inl rfl) rfl rfl rfl ?_
      refine GX.done ?_
      refine WK.nil (QF.normal (hK12 _ ?_))
      refine WK.nil ?_
      obtain rfl := Option.some.inj hR
      exact RetQ.ret [0] [] (.inl rfl) rfl rfl rfl rfl rfl .refl rfl

theorem f45_ok (a0 : TDesc) (a1 : TTalk) (R : TTalk) (hR : F45_exch_talk_hears_1 a0 a1 = R) : FnOk Try.prog 45 [.agg (TDesc.c a0), .ptr 1 0] [(0, .box (TTalk.c a1)), (1, .box [.ptr 0 0])] 2 (.tup []) [(0, .box (TTalk.c R)), (1, .box [.ptr 0 0])] 2 := by
 refine FnOk.wk i45 rfl rfl ?_
 unfold F45_exch_talk_hears_1 at hR
 change WK _ _ _ [ac45] _ ⟨[(0, .agg (TDesc.c a0)), (1, .ptr 1 0)], [(0, .box (TTalk.c a1)), (1, .box [.ptr 0 0])], 2⟩
 unfold ac45
 refine WK.sr mixed ?_
 refine GX.step (v' := .ptr 2 0) (heap' := [(0, .box (TTalk.c a1)), (1, .box [.ptr 0 0]), (2, .box (TDesc.c a0))]) (next' := 3) rfl rfl rfl rfl rfl rfl rfl ?_
 refine GX.done ?_
 refine WK.regx mixed ?_
 iterate 2 refine GX.q (.ptr 0 0) ?_
 refine GX.q (.ptr 0 22) ?_
 refine GX.step0 (heap' := [(0, .box [.int .u32 a1.Session.Own, .int .u32 a1.Session.Peer, .int .i64 a1.Session.Phase, .bool a1.Session.Leads, .int .u32 a1.Session.Seq, .ro 8 (a1.Session.Left.map THeader.c), .ro 8 (a1.Session.Got.map THeader.c), .int .i64 a1.Session.Last.MTU, .int .i64 a1.Session.Last.Options, .bool a1.Session.Last.Init, .bool a1.Session.Last.More, .bool a1.Session.Last.Master, .int .u32 a1.Session.Last.Seq, .ro 8 (a1.Session.Last.Heads.map THeader.c), .int .i64 a1.out.MTU, .int .i64 a1.out.Options, .bool a1.out.Init, .bool a1.out.More, .bool a1.out.Master, .int .u32 a1.out.Seq, .ro 8 (a1.out.Heads.map THeader.c), .bool a1.sent, .int .i64 13]), (1, .box [.ptr 0 0]), (2, .box (TDesc.c a0))]) (next' := 3) rfl rfl rfl rfl rfl ?_
 refine GX.done ?_
 refine WK.nil ?_
 subst hR
 exact RetQ.ret [0, 1] [] (.inl rfl) rfl rfl rfl rfl rfl .refl rfl

theorem f47_ok (t0 : TTalk) (d1 : TDesc) (R : TTalk) (hR : F47_exch_talk_follow t0 d1 = some R) : FnOk Try.prog 47 [.ptr 0 0, .agg (TDesc.c d1)] [(0, .box (TTalk.c t0))] 1 (.tup []) [(0, .box (TTalk.c R))] 1 := by
 refine FnOk.wk i47 rfl rfl ?_
 unfold F47_exch_talk_follow at hR
 try dsimp only at hR
 change WK _ _ _ [ac47] _ ⟨[(0, .ptr 0 0), (1, .agg (TDesc.c d1))], [(0, .box (TTalk.c t0))], 1⟩
 unfold ac47
 refine WK.sr mixed ?_
 refine GX.step (v' := .ptr 1 0) (heap' := [(0, .box (TTalk.c t0)), (1, .box (TDesc.c d1))]) (next' := 2) rfl rfl rfl rfl rfl rfl rfl ?_
 refine GX.done ?_
 refine WK.seq ?_
 refine WK.blockK (fun _ hK1 => ?_)
 refine WK.seq ?_
 refine WK.drawn mixed ?_
 refine RD.q (.ptr 1 5) ?_
 refine RD.q (.int .u32 d1.Seq) ?_
 refine RD.m rfl ?_
 iterate 2 refine RD.q (.ptr 0 0) ?_
 refine RD.q (.ptr 0 4) ?_
 refine RD.q (.int .u32 t0.Session.Seq) ?_
 refine RD.q (.bool (decide (d1.Seq = t0.Session.Seq))) ?_
 refine RD.m rfl ?_
 refine RD.done rfl ?_
 rcases bool_two (decide (d1.Seq = t0.Session.Seq)) with hb2 | hb2
 ·rw [hb2]; first | replace hR := cond_f hb2 hR | (try simp only [hb2, bb] at hR)
  refine WK.condF rfl ?_
  refine WK.seq ?_
  refine WK.drawn mixed ?_
  refine RD.q (.ptr 1 5) ?_
  refine RD.q (.int .u32 d1.Seq) ?_
  refine RD.m rfl ?_
  iterate 2 refine RD.q (.ptr 0 0) ?_
  refine RD.q (.ptr 0 4) ?_
  refine RD.q (.int .u32 t0.Session.Seq) ?_
  refine RD.q (.int .u32 (IntKind.u32.wrap (t0.Session.Seq + 1))) ?_
  refine RD.q (.bool (!decide (d1.Seq = IntKind.u32.wrap (t0.Session.Seq + 1)))) ?_
  refine RD.m rfl ?_
  rcases bool_two (decide (d1.Seq = IntKind.u32.wrap (t0.Session.Seq + 1))) with hb3 | hb3
  ·rw [hb3]; first | replace hR := cond_f hb3 hR | (try simp only [hb3, bb] at hR)
   iterate 6 refine RD.skip rfl rfl ?_
   refine RD.q (.bool true) ?_
   refine RD.m rfl ?_
   refine RD.done rfl ?_
   refine WK.condT rfl ?_
   refine WK.sr mixed ?_
   refine GX.m rfl ?_
   refine GX.q (.ptr 0 0) ?_
   refine GX.q (.ptr 0 22) ?_
   refine GX.step0 (heap' := [(0, .box [.int .u32 t0.Session.Own, .int .u32 t0.Session.Peer, .int .i64 t0.Session.Phase, .bool t0.Session.Leads, .int .u32 t0.Session.Seq, .ro 8 (t0.Session.Left.map THeader.c), .ro 8 (t0.Session.Got.map THeader.c), .int .i64 t0.Session.Last.MTU, .int .i64 t0.Session.Last.Options, .bool t0.Session.Last.Init, .bool t0.Session.Last.More, .bool t0.Session.Last.Master, .int .u32 t0.Session.Last.Seq, .ro 8 (t0.Session.Last.Heads.map THeader.c), .int .i64 t0.out.MTU, .int .i64 t0.out.Options, .bool t0.out.Init, .bool t0.out.More, .bool t0.out.Master, .int .u32 t0.out.Seq, .ro 8 (t0.out.Heads.map THeader.c), .bool t0.sent, .int .i64 13]), (1, .box (TDesc.c d1))]) (next' := 2) rfl rfl rfl rfl rfl ?_
   refine GX.done ?_
   refine WK.ret ?_
   refine QF.ret ?_
   obtain rfl := Option.some.inj hR
   exact RetQ.ret [0] [] (.inr rfl) rfl rfl rfl rfl rfl .refl rfl
  ·rw [hb3]; first | replace hR := cond_t hb3 hR | (try simp only [hb3, bb] at hR)
   refine RD.m rfl ?_
   iterate 2 refine RD.q (.ptr 0 0) ?_
   refine RD.q (.ptr 0 2) ?_
   refine RD.q (.int .i64 t0.Session.Phase) ?_
   iterate 2 refine RD.q (.bool (decide (t0.Session.Phase = 2))) ?_
   refine RD.m rfl ?_
   refine RD.done rfl ?_
   rcases bool_two (decide (t0.Session.Phase = 2)) with hb4 | hb4
   ·rw [hb4]; first | replace hR := cond_f hb4 hR | (try simp only [hb4, bb] at hR)
    refine WK.condF rfl ?_
    refine WK.skip ?_
    refine WK.nil (QF.normal (hK1 _ ?_))
    refine WK.sr mixed ?_
    refine GX.m rfl ?_
    refine GX.q (.agg (TDesc.c d1)) ?_
    generalize hc43 : F64_exch_talk_take t0 d1 = c43 at hR
    rcases c43 with _ | c43
    ·try dsimp only at hR
     cases hR
    try dsimp only at hR
    try dsimp only at hR
    refine GX.callx (r' := .tup []) (heap' := [(0, .box (TTalk.c c43)), (1, .box (TDesc.c d1))]) (next' := 2) [0] [] rfl rfl rfl rfl rfl rfl (f64_ok t0 d1 _ hc43) (.inl rfl) rfl rfl rfl ?_
    refine GX.done ?_
    refine WK.sr mixed ?_
    refine GX.m rfl ?_
    refine GX.q (.ptr 1 5) ?_
    refine GX.q (.int .u32 d1.Seq) ?_
    iterate 2 refine GX.q (.ptr 0 0) ?_
    refine GX.q (.ptr 0 4) ?_
    refine GX.step0 (heap' := [(0, .box [.int .u32 c43.Session.Own, .int .u32 c43.Session.Peer, .int .i64 c43.Session.Phase, .bool c43.Session.Leads, .int .u32 d1.Seq, .ro 8 (c43.Session.Left.map THeader.c), .ro 8 (c43.Session.Got.map THeader.c), .int .i64 c43.Session.Last.MTU, .int .i64 c43.Session.Last.Options, .bool c43.Session.Last.Init, .bool c43.Session.Last.More, .bool c43.Session.Last.Master, .int .u32 c43.Session.Last.Seq, .ro 8 (c43.Session.Last.Heads.map THeader.c), .int .i64 c43.out.MTU, .int .i64 c43.out.Options, .bool c43.out.Init, .bool c43.out.More, .bool c43.out.Master, .int .u32 c43.out.Seq, .ro 8 (c43.out.Heads.map THeader.c), .bool c43.sent, .int .i64 c43.e]), (1, .box (TDesc.c d1))]) (next' := 2) rfl rfl rfl rfl rfl ?_
    refine GX.done ?_
    refine WK.sr mixed ?_
    refine GX.m rfl ?_
    generalize hc51 : F63_exch_talk_page (⟨(⟨c43.Session.Own, c43.Session.Peer, c43.Session.Phase, c43.Session.Leads, d1.Seq, c43.Session.Left, c43.Session.Got, c43.Session.Last⟩ : TSession), c43.out, c43.sent, c43.e⟩ : TTalk) = c51 at hR
    rcases c51 with _ | c51
    ·try dsimp only at hR
     cases hR
    try dsimp only at hR
    try dsimp only at hR
    refine GX.callx (r' := .tup []) (heap' := [(0, .box (TTalk.c c51)), (1, .box (TDesc.c d1))]) (next' := 2) [0] [] rfl rfl rfl rfl rfl rfl (f63_ok (⟨(⟨c43.Session.Own, c43.Session.Peer, c43.Session.Phase, c43.Session.Leads, d1.Seq, c43.Session.Left, c43.Session.Got, c43.Session.Last⟩ : TSession), c43.out, c43.sent, c43.e⟩ : TTalk) _ hc51) (.inl rfl) rfl rfl rfl ?_
    refine GX.done ?_
    refine WK.sr mixed ?_
    refine GX.q (.ptr 1 3) ?_
    refine GX.q (.bool d1.More) ?_
    refine GX.q (.bool (!d1.More)) ?_
    refine GX.m rfl ?_
    rcases bool_two (d1.More) with hb7 | hb7
    ·rw [hb7]; first | replace hR := cond_f hb7 hR | (try simp only [hb7, bb] at hR)
     refine GX.m rfl ?_
     refine GX.q (.ptr 0 0) ?_
     refine GX.q (.ptr 0 14) ?_
     refine GX.q (.ptr 0 17) ?_
     refine GX.q (.bool c51.out.More) ?_
     iterate 2 refine GX.q (.bool (!c51.out.More)) ?_
     refine GX.done ?_
     rcases bool_two (c51.out.More) with hb8 | hb8
     ·rw [hb8]; first | replace hR := cond_f hb8 hR | (try simp only [hb8, bb] at hR)
      refine WK.condT rfl ?_
      refine WK.regx mixed ?_
      refine GX.m rfl ?_
      iterate 2 refine GX.q (.ptr 0 0) ?_
      refine GX.q (.ptr 0 2) ?_
      refine GX.step0 (heap' := [(0, .box [.int .u32 c51.Session.Own, .int .u32 c51.Session.Peer, .int .i64 2, .bool c51.Session.Leads, .int .u32 c51.Session.Seq, .ro 8 (c51.Session.Left.map THeader.c), .ro 8 (c51.Session.Got.map THeader.c), .int .i64 c51.Session.Last.MTU, .int .i64 c51.Session.Last.Options, .bool c51.Session.Last.Init, .bool c51.Session.Last.More, .bool c51.Session.Last.Master, .int .u32 c51.Session.Last.Seq, .ro 8 (c51.Session.Last.Heads.map THeader.c), .int .i64 c51.out.MTU, .int .i64 c51.out.Options, .bool c51.out.Init, .bool c51.out.More, .bool c51.out.Master, .int .u32 c51.out.Seq, .ro 8 (c51.out.Heads.map THeader.c), .bool c51.sent, .int .i64 c51.e]), (1, .box (TDesc.c d1))]) (next' := 2) rfl rfl rfl rfl rfl ?_
      refine GX.done ?_
      refine WK.nil ?_
      obtain rfl := Option.some.inj hR
      exact RetQ.ret [0] [] (.inl rfl) rfl rfl rfl rfl rfl .refl rfl
     ·rw [hb8]; first | replace hR := cond_t hb8 hR | (try simp only [hb8, bb] at hR)
      refine WK.condF rfl ?_
      refine WK.skip ?_
      refine WK.nil ?_
      obtain rfl := Option.some.inj hR
      exact RetQ.ret [0] [] (.inl rfl) rfl rfl rfl rfl rfl .refl rfl
    ·rw [hb7]; first | replace hR := cond_t hb7 hR | (try simp only [hb7, bb] at hR)
     iterate 6 refine GX.skip rfl rfl ?_
     refine GX.q (.bool false) ?_
     refine GX.done ?_
     refine WK.condF rfl ?_
     refine WK.skip ?_
     refine WK.nil ?_
     obtain rfl := Option.some.inj hR
     exact RetQ.ret [0] [] (.inl rfl) rfl rfl rfl rfl rfl .refl rfl
   ·rw [hb4]; first | replace hR := cond_t hb4 hR | (try simp only [hb4, bb] at hR)
    refine WK.condT rfl ?_
    refine WK.sr mixed ?_
    refine GX.m rfl ?_
    refine GX.q (.ptr 0 0) ?_
    refine GX.q (.ptr 0 22) ?_
    refine GX.step0 (heap' := [(0, .box [.int .u32 t0.Session.Own, .int .u32 t0.Session.Peer, .int .i64 t0.Session.Phase, .bool t0.Session.Leads, .int .u32 t0.Session.Seq, .ro 8 (t0.Session.Left.map THeader.c), .ro 8 (t0.Session.Got.map THeader.c), .int .i64 t0.Session.Last.MTU, .int .i64 t0.Session.Last.Options, .bool t0.Session.Last.Init, .bool t0.Session.Last.More, .bool t0.Session.Last.Master, .int .u32 t0.Session.Last.Seq, .ro 8 (t0.Session.Last.Heads.map THeader.c), .int .i64 t0.out.MTU, .int .i64 t0.out.Options, .bool t0.out.Init, .bool t0.out.More, .bool t0.out.Master, .int .u32 t0.out.Seq, .ro 8 (t0.out.Heads.map THeader.c), .bool t0.sent, .int .i64 13]), (1, .box (TDesc.c d1))]) (next' := 2) rfl rfl rfl rfl rfl ?_
    refine GX.done ?_
    refine WK.ret ?_
    refine QF.ret ?_
    obtain rfl := Option.some.inj hR
    exact RetQ.ret [0] [] (.inr rfl) rfl rfl rfl rfl rfl .refl rfl
 ·rw [hb2]; first | replace hR := cond_t hb2 hR | (try simp only [hb2, bb] at hR)
  refine WK.condT rfl ?_
  refine WK.sr mixed ?_
  iterate 2 refine GX.m rfl ?_
  iterate 2 refine GX.q (.ptr 0 0) ?_
  refine GX.q (.ptr 0 7) ?_
  refine GX.q (.agg [.int .i64 t0.Session.Last.MTU, .int .i64 t0.Session.Last.Options, .bool t0.Session.Last.Init, .bool t0.Session.Last.More, .bool t0.Session.Last.Master, .int .u32 t0.Session.Last.Seq, .ro 8 (t0.Session.Last.Heads.map THeader.c)]) ?_
  generalize hc19 : F65_exch_talk_send t0 t0.Session.Last = c19 at hR
  try dsimp only at hR
  refine GX.callx (r' := .tup []) (heap' := [(0, .box (TTalk.c c19)), (1, .box (TDesc.c d1))]) (next' := 2) [0] [] rfl rfl rfl rfl rfl rfl (f65_ok t0 t0.Session.Last _ hc19) (.inl rfl) rfl rfl rfl ?_
  refine GX.done ?_
  refine WK.ret ?_
  refine QF.ret ?_
  obtain rfl := Option.some.inj hR
  exact RetQ.ret [0] [] (.inr rfl) rfl rfl rfl rfl rfl .refl rfl

theorem f28_ok (t0 : TTalk) (d1 : TDesc) (R : Lf4 × TTalk) (hR : F28_exch_talk_hears t0 d1 = some R) : FnOk Try.prog 28 [.ptr 0 0, .agg (TDesc.c d1)] [(0, .box (TTalk.c t0))] 1 (fv28 R.1) [(0, .box (TTalk.c R.2)), (1, .box [.ptr 0 0])] 2 := by
 refine FnOk.wk i28 rfl rfl ?_
 unfold F28_exch_talk_hears at hR
 try dsimp only at hR
 change WK _ _ _ [ac28] _ ⟨[(0, .ptr 0 0), (1, .agg (TDesc.c d1))], [(0, .box (TTalk.c t0))], 1⟩
 unfold ac28
 refine WK.sr mixed ?_
 refine GX.step (v' := .ptr 1 0) (heap' := [(0, .box (TTalk.c t0)), (1, .box [.ptr 0 0])]) (next' := 2) rfl rfl rfl rfl rfl rfl rfl ?_
 refine GX.step (v' := .ptr 2 0) (heap' := [(0, .box (TTalk.c t0)), (1, .box [.ptr 0 0]), (2, .box (TDesc.c d1))]) (next' := 3) rfl rfl rfl rfl rfl rfl rfl ?_
 refine GX.m rfl ?_
 refine GX.done ?_
 refine WK.seq ?_
 refine WK.blockK (fun _ hK1 => ?_)
 refine WK.sr mixed ?_
 iterate 3 refine GX.q (.ptr 0 0) ?_
 refine GX.q (.ptr 0 2) ?_
 refine GX.q (.int .i64 t0.Session.Phase) ?_
 refine GX.q (.bool (decide (t0.Session.Phase = 0))) ?_
 refine GX.m rfl ?_
 refine GX.done ?_
 rcases bool_two (decide (t0.Session.Phase = 0)) with hb2 | hb2
 ·rw [hb2]; first | replace hR := cond_f hb2 hR | (try simp only [hb2, bb] at hR)
  refine WK.condF rfl ?_
  refine WK.seq ?_
  refine WK.drawn mixed ?_
  refine RD.q (.ptr 2 2) ?_
  refine RD.q (.bool d1.Init) ?_
  refine RD.m rfl ?_
  rcases bool_two (d1.Init) with hb3 | hb3
  ·rw [hb3]; first | replace hR := cond_f hb3 hR | (try simp only [hb3, bb] at hR)
   refine RD.q (.ptr 2 4) ?_
   refine RD.q (.bool d1.Master) ?_
   iterate 3 refine RD.q (.ptr 0 0) ?_
   refine RD.q (.ptr 0 3) ?_
   refine RD.q (.bool t0.Session.Leads) ?_
   iterate 2 refine RD.q (.bool (d1.Master == t0.Session.Leads)) ?_
   refine RD.m rfl ?_
   refine RD.done rfl ?_
   rcases bool_two ((d1.Master == t0.Session.Leads)) with hb4 | hb4
   ·rw [hb4]; try simp only [hb4, bb] at hR
    refine WK.condF rfl ?_
    refine WK.sr mixed ?_
    iterate 3 refine GX.q (.ptr 0 0) ?_
    refine GX.q (.ptr 0 3) ?_
    refine GX.q (.bool t0.Session.Leads) ?_
    refine GX.m rfl ?_
    refine GX.done ?_
    rcases bool_two (t0.Session.Leads) with hb5 | hb5
    ·rw [hb5]; first | replace hR := cond_f hb5 hR | (try simp only [hb5, bb] at hR)
     refine WK.condF rfl ?_
     refine WK.skip ?_
     refine WK.nil (QF.normal (hK1 _ ?_))
     refine WK.sr mixed ?_
     refine GX.q (.ptr 0 0) ?_
     refine GX.q (.fn 47 [.ptr 0 0] []) ?_
     refine GX.m rfl ?_
     refine GX.done ?_
     refine WK.ret ?_
     obtain rfl := Option.some.inj hR
     exact RetQ.ret [0, 1] [] (.inr rfl) rfl rfl rfl rfl rfl .refl rfl
    ·rw [hb5]; first | replace hR := cond_t hb5 hR | (try simp only [hb5, bb] at hR)
     refine WK.condT rfl ?_
     refine WK.sr mixed ?_
     refine GX.q (.ptr 0 0) ?_
     refine GX.q (.fn 46 [.ptr 0 0] []) ?_
     refine GX.m rfl ?_
     refine GX.done ?_
     refine WK.ret ?_
     refine QF.ret ?_
     obtain rfl := Option.some.inj hR
     exact RetQ.ret [0, 1] [] (.inr rfl) rfl rfl rfl rfl rfl .refl rfl
   ·rw [hb4]; try simp only [hb4, bb] at hR
    refine WK.condT rfl ?_
    refine WK.sr mixed ?_
    refine GX.q (.fn 45 [] [.ptr 1 0]) ?_
    refine GX.m rfl ?_
    refine GX.done ?_
    refine WK.ret ?_
    refine QF.ret ?_
    obtain rfl := Option.some.inj hR
    exact RetQ.ret [0, 1] [] (.inr rfl) rfl rfl rfl rfl rfl .refl rfl
  ·rw [hb3]; first | replace hR := cond_t hb3 hR | (try simp only [hb3, bb] at hR)
   iterate 8 refine RD.skip rfl rfl ?_
   refine RD.q (.bool true) ?_
   refine RD.m rfl ?_
   refine RD.done rfl ?_
   refine WK.condT rfl ?_
   refine WK.sr mixed ?_
   refine GX.q (.fn 45 [] [.ptr 1 0]) ?_
   refine GX.m rfl ?_
   refine GX.done ?_
   refine WK.ret ?_
   refine QF.ret ?_
   obtain rfl := Option.some.inj hR
   exact RetQ.ret [0, 1] [] (.inr rfl) rfl rfl rfl rfl rfl .refl rfl
 ·rw [hb2]; first | replace hR := cond_t hb2 hR | (try simp only [hb2, bb] at hR)
  refine WK.condT rfl ?_
  refine WK.sr mixed ?_
  refine GX.q (.ptr 0 0) ?_
  refine GX.q (.fn 44 [.ptr 0 0] []) ?_
  refine GX.m rfl ?_
  refine GX.done ?_
  refine WK.ret ?_
  refine QF.ret ?_
  obtain rfl := Option.some.inj hR
  exact RetQ.ret [0, 1] [] (.inr rfl) rfl rfl rfl rfl rfl .refl rfl

theorem f15_ok (s0 : TSession) (d1 : TDesc) (R : TSession × TDesc × Bool × Int) (hR : F15_exch_Hear s0 d1 = some R) : FnOk Try.prog 15 [.agg (TSession.c s0), .agg (TDesc.c d1)] [] 0 (.tup [.agg (TSession.c R.1), .agg (TDesc.c R.2.1), .bool R.2.2.1, .int .i64 R.2.2.2]) [] 0 := by
 refine FnOk.wk i15 rfl rfl ?_
 unfold F15_exch_Hear at hR
 try dsimp only at hR
 change WK _ _ _ [ac15] _ ⟨[(0, .agg (TSession.c s0)), (1, .agg (TDesc.c d1))], [], 0⟩
 unfold ac15
 refine WK.sr mixed ?_
 refine GX.step (v' := .ptr 0 0) (heap' := [(0, .box (TSession.c s0))]) (next' := 1) rfl rfl rfl rfl rfl rfl rfl ?_
 refine GX.step (v' := .ptr 1 0) (heap' := [(0, .box (TSession.c s0)), (1, .box (TDesc.c d1))]) (next' := 2) rfl rfl rfl rfl rfl rfl rfl ?_
 refine GX.step (v' := .ptr 2 0) (heap' := [(0, .box (TSession.c s0)), (1, .box (TDesc.c d1)), (2, .box [.int .u32 0, .int .u32 0, .int .i64 0, .bool false, .int .u32 0, .nils, .nils, .int .i64 0, .int .i64 0, .bool false, .bool false, .bool false, .int .u32 0, .nils])]) (next' := 3) rfl rfl rfl rfl rfl rfl rfl ?_
 refine GX.step (v' := .ptr 3 0) (heap' := [(0, .box (TSession.c s0)), (1, .box (TDesc.c d1)), (2, .box [.int .u32 0, .int .u32 0, .int .i64 0, .bool false, .int .u32 0, .nils, .nils, .int .i64 0, .int .i64 0, .bool false, .bool false, .bool false, .int .u32 0, .nils]), (3, .box [.int .i64 0, .int .i64 0, .bool false, .bool false, .bool false, .int .u32 0, .nils])]) (next' := 4) rfl rfl rfl rfl rfl rfl rfl ?_
 iterate 2 refine GX.m rfl ?_
 refine GX.done ?_
 refine WK.sr mixed ?_
 refine GX.q (.agg (TSession.c s0)) ?_
 refine GX.q (.agg [.int .u32 s0.Own, .int .u32 s0.Peer, .int .i64 s0.Phase, .bool s0.Leads, .int .u32 s0.Seq, .ro 8 (s0.Left.map THeader.c), .ro 8 (s0.Got.map THeader.c), .int .i64 s0.Last.MTU, .int .i64 s0.Last.Options, .bool s0.Last.Init, .bool s0.Last.More, .bool s0.Last.Master, .int .u32 s0.Last.Seq, .ro 8 (s0.Last.Heads.map THeader.c), .int .i64 0, .int .i64 0, .bool false, .bool false, .bool false, .int .u32 0, .nils, .bool false, .int .i64 0]) ?_
 refine GX.step (v' := .ptr 4 0) (heap' := [(0, .box (TSession.c s0)), (1, .box (TDesc.c d1)), (2, .box [.int .u32 0, .int .u32 0, .int .i64 0, .bool false, .int .u32 0, .nils, .nils, .int .i64 0, .int .i64 0, .bool false, .bool false, .bool false, .int .u32 0, .nils]), (3, .box [.int .i64 0, .int .i64 0, .bool false, .bool false, .bool false, .int .u32 0, .nils]), (4, .box [.int .u32 s0.Own, .int .u32 s0.Peer, .int .i64 s0.Phase, .bool s0.Leads, .int .u32 s0.Seq, .ro 8 (s0.Left.map THeader.c), .ro 8 (s0.Got.map THeader.c), .int .i64 s0.Last.MTU, .int .i64 s0.Last.Options, .bool s0.Last.Init, .bool s0.Last.More, .bool s0.Last.Master, .int .u32 s0.Last.Seq, .ro 8 (s0.Last.Heads.map THeader.c), .int .i64 0, .int .i64 0, .bool false, .bool false, .bool false, .int .u32 0, .nils, .bool false, .int .i64 0])]) (next' := 5) rfl rfl rfl rfl rfl rfl rfl ?_
 refine GX.m rfl ?_
 refine GX.done ?_
 refine WK.seq ?_
 refine WK.weakB (id := 4) (cs' := [.int .u32 s0.Own, .int .u32 s0.Peer, .int .i64 s0.Phase, .bool s0.Leads, .int .u32 s0.Seq, .ro 8 (s0.Left.map THeader.c), .ro 8 (s0.Got.map THeader.c), .int .i64 s0.Last.MTU, .int .i64 s0.Last.Options, .bool s0.Last.Init, .bool s0.Last.More, .bool s0.Last.Master, .int .u32 s0.Last.Seq, .ro 8 (s0.Last.Heads.map THeader.c), .int .i64 0, .int .i64 0, .bool false, .bool false, .bool false, .int .u32 0, .ro 8 (([] : List THeader).map THeader.c), .bool false, .int .i64 0]) (heap' := [(0, .box (TSession.c s0)), (1, .box (TDesc.c d1)), (2, .box [.int .u32 0, .int .u32 0, .int .i64 0, .bool false, .int .u32 0, .nils, .nils, .int .i64 0, .int .i64 0, .bool false, .bool false, .bool false, .int .u32 0, .nils]), (3, .box [.int .i64 0, .int .i64 0, .bool false, .bool false, .bool false, .int .u32 0, .nils]), (4, .box [.int .u32 s0.Own, .int .u32 s0.Peer, .int .i64 s0.Phase, .bool s0.Leads, .int .u32 s0.Seq, .ro 8 (s0.Left.map THeader.c), .ro 8 (s0.Got.map THeader.c), .int .i64 s0.Last.MTU, .int .i64 s0.Last.Options, .bool s0.Last.Init, .bool s0.Last.More, .bool s0.Last.Master, .int .u32 s0.Last.Seq, .ro 8 (s0.Last.Heads.map THeader.c), .int .i64 0, .int .i64 0, .bool false, .bool false, .bool false, .int .u32 0, .ro 8 (([] : List THeader).map THeader.c), .bool false, .int .i64 0])]) rfl (.cons .refl (.cons .refl (.cons .refl (.cons .refl (.cons .refl (.cons .refl (.cons .refl (.cons .refl (.cons .refl (.cons .refl (.cons .refl (.cons .refl (.cons .refl (.cons .refl (.cons .refl (.cons .refl (.cons .refl (.cons .refl (.cons .refl (.cons .refl (.cons .nil .refl))))))))))))))))))))) (by simp) rfl ?_
 refine WK.drawn mixed ?_
 refine RD.m rfl ?_
 refine RD.q (.agg (TDesc.c d1)) ?_
 generalize hc14 : F28_exch_talk_hears (⟨s0, (⟨0, 0, false, false, false, 0, ([] : List THeader)⟩ : TDesc), false, 0⟩ : TTalk) d1 = c14 at hR
 rcases c14 with _ | c14
 ·try dsimp only at hR
  cases hR
 try dsimp only at hR
 obtain ⟨c14a, c14b⟩ := c14; try dsimp only at hR
 rcases c14a with _ | _ | _ | _
 ·try dsimp only at hR
  refine RD.callx (r' := .fn 47 [.ptr 4 0] []) (heap' := [(0, .box (TSession.c s0)), (1, .box (TDesc.c d1)), (2, .box [.int .u32 0, .int .u32 0, .int .i64 0, .bool false, .int .u32 0, .nils, .nils, .int .i64 0, .int .i64 0, .bool false, .bool false, .bool false, .int .u32 0, .nils]), (3, .box [.int .i64 0, .int .i64 0, .bool false, .bool false, .bool false, .int .u32 0, .nils]), (4, .box (TTalk.c c14b)), (5, .box [.ptr 4 0])]) (next' := 6) [4] [] rfl rfl rfl rfl rfl rfl (f28_ok (⟨s0, (⟨0, 0, false, false, false, 0, ([] : List THeader)⟩ : TDesc), false, 0⟩ : TTalk) d1 _ hc14) (.inl rfl) rfl rfl rfl ?_
  refine RD.q (.agg (TDesc.c d1)) ?_
  generalize hc16 : F47_exch_talk_follow c14b d1 = c16 at hR
  rcases c16 with _ | c16
  ·try dsimp only at hR
   cases hR
  try dsimp only at hR
  try dsimp only at hR
  refine RD.callvx (r' := .tup []) (heap' := [(0, .box (TSession.c s0)), (1, .box (TDesc.c d1)), (2, .box [.int .u32 0, .int .u32 0, .int .i64 0, .bool false, .int .u32 0, .nils, .nils, .int .i64 0, .int .i64 0, .bool false, .bool false, .bool false, .int .u32 0, .nils]), (3, .box [.int .i64 0, .int .i64 0, .bool false, .bool false, .bool false, .int .u32 0, .nils]), (4, .box (TTalk.c c16)), (5, .box [.ptr 4 0])]) (next' := 6) [4] [] rfl rfl rfl rfl rfl rfl (f47_ok c14b d1 _ hc16) (.inl rfl) rfl rfl rfl ?_
  refine RD.done rfl ?_
  refine WK.seq ?_
  refine WK.sr mixed ?_
  refine GX.m rfl ?_
  refine GX.q (.ptr 4 0) ?_
  refine GX.q (.ptr 4 22) ?_
  refine GX.q (.int .i64 c16.e) ?_
  refine GX.q (.bool (!decide (c16.e = 0))) ?_
  refine GX.done ?_
  rcases bool_two (decide (c16.e = 0)) with hb3 | hb3
  ·rw [hb3]; first | replace hR := cond_f hb3 hR | (try simp only [hb3, bb] at hR)
   refine WK.condT rfl ?_
   refine WK.seq ?_
   refine WK.drawn mixed ?_
   refine RD.q (.agg (TSession.c s0)) ?_
   refine RD.q (.agg [.int .i64 0, .int .i64 0, .bool false, .bool false, .bool false, .int .u32 0, .nils]) ?_
   refine RD.m rfl ?_
   refine RD.q (.ptr 4 0) ?_
   refine RD.q (.ptr 4 22) ?_
   refine RD.q (.int .i64 c16.e) ?_
   iterate 2 refine RD.step0 (heap' := [(0, .box (TSession.c s0)), (1, .box (TDesc.c d1)), (2, .box (TSession.c s0)), (3, .box [.int .i64 0, .int .i64 0, .bool false, .bool false, .bool false, .int .u32 0, .nils]), (4, .box (TTalk.c c16)), (5, .box [.ptr 4 0])]) (next' := 6) rfl rfl rfl rfl rfl ?_
   iterate 2 refine RD.m rfl ?_
   refine RD.done rfl ?_
   refine WK.ret ?_
   obtain rfl := Option.some.inj hR
   exact RetQ.frw [] (.inr rfl) rfl rfl rfl (.tup (.cons .refl (.cons (.agg (.cons .refl (.cons .refl (.cons .refl (.cons .refl (.cons .refl (.cons .refl (.cons .nil .refl)))))))) .refl)))
  ·rw [hb3]; first | replace hR := cond_t hb3 hR | (try simp only [hb3, bb] at hR)
   refine WK.condF rfl ?_
   refine WK.skip ?_
   refine WK.seq ?_
   refine WK.drawn mixed ?_
   refine RD.m rfl ?_
   iterate 2 refine RD.q (.ptr 4 0) ?_
   refine RD.q (.agg [.int .u32 c16.Session.Own, .int .u32 c16.Session.Peer, .int .i64 c16.Session.Phase, .bool c16.Session.Leads, .int .u32 c16.Session.Seq, .ro 8 (c16.Session.Left.map THeader.c), .ro 8 (c16.Session.Got.map THeader.c), .int .i64 c16.Session.Last.MTU, .int .i64 c16.Session.Last.Options, .bool c16.Session.Last.Init, .bool c16.Session.Last.More, .bool c16.Session.Last.Master, .int .u32 c16.Session.Last.Seq, .ro 8 (c16.Session.Last.Heads.map THeader.c)]) ?_
   refine RD.m rfl ?_
   refine RD.q (.ptr 4 0) ?_
   refine RD.q (.ptr 4 14) ?_
   refine RD.q (.agg [.int .i64 c16.out.MTU, .int .i64 c16.out.Options, .bool c16.out.Init, .bool c16.out.More, .bool c16.out.Master, .int .u32 c16.out.Seq, .ro 8 (c16.out.Heads.map THeader.c)]) ?_
   refine RD.m rfl ?_
   refine RD.q (.ptr 4 0) ?_
   refine RD.q (.ptr 4 21) ?_
   refine RD.q (.bool c16.sent) ?_
   refine RD.step0 (heap' := [(0, .box (TSession.c s0)), (1, .box (TDesc.c d1)), (2, .box (TSession.c c16.Session)), (3, .box [.int .i64 0, .int .i64 0, .bool false, .bool false, .bool false, .int .u32 0, .nils]), (4, .box (TTalk.c c16)), (5, .box [.ptr 4 0])]) (next' := 6) rfl rfl rfl rfl rfl ?_
   refine RD.step0 (heap' := [(0, .box (TSession.c s0)), (1, .box (TDesc.c d1)), (2, .box (TSession.c c16.Session)), (3, .box (TDesc.c c16.out)), (4, .box (TTalk.c c16)), (5, .box [.ptr 4 0])]) (next' := 6) rfl rfl rfl rfl rfl ?_
   iterate 2 refine RD.m rfl ?_
   refine RD.done rfl ?_
   refine WK.ret ?_
   obtain rfl := Option.some.inj hR
   exact RetQ.fr [] (.inr rfl) rfl rfl rfl rfl
 ·try dsimp only at hR
  refine RD.callx (r' := .fn 46 [.ptr 4 0] []) (heap' := [(0, .box (TSession.c s0)), (1, .box (TDesc.c d1)), (2, .box [.int .u32 0, .int .u32 0, .int .i64 0, .bool false, .int .u32 0, .nils, .nils, .int .i64 0, .int .i64 0, .bool false, .bool false, .bool false, .int .u32 0, .nils]), (3, .box [.int .i64 0, .int .i64 0, .bool false, .bool false, .bool false, .int .u32 0, .nils]), (4, .box (TTalk.c c14b)), (5, .box [.ptr 4 0])]) (next' := 6) [4] [] rfl rfl rfl rfl rfl rfl (f28_ok (⟨s0, (⟨0, 0, false, false, false, 0, ([] : List THeader)⟩ : TDesc), false, 0⟩ : TTalk) d1 _ hc14) (.inl rfl) rfl rfl rfl ?_
  refine RD.q (.agg (TDesc.c d1)) ?_
  generalize hc16 : F46_exch_talk_lead c14b d1 = c16 at hR
  rcases c16 with _ | c16
  ·try dsimp only at hR
   cases hR
  try dsimp only at hR
  try dsimp only at hR
  refine RD.callvx (r' := .tup []) (heap' := [(0, .box (TSession.c s0)), (1, .box (TDesc.c d1)), (2, .box [.int .u32 0, .int .u32 0, .int .i64 0, .bool false, .int .u32 0, .nils, .nils, .int .i64 0, .int .i64 0, .bool false, .bool false, .bool false, .int .u32 0, .nils]), (3, .box [.int .i64 0, .int .i64 0, .bool false, .bool false, .bool false, .int .u32 0, .nils]), (4, .box (TTalk.c c16)), (5, .box [.ptr 4 0])]) (next' := 6) [4] [] rfl rfl rfl rfl rfl rfl (f46_ok c14b d1 _ hc16) (.inl rfl) rfl rfl rfl ?_
  refine RD.done rfl ?_
  refine WK.seq ?_
  refine WK.sr mixed ?_
  refine GX.m rfl ?_
  refine GX.q (.ptr 4 0) ?_
  refine GX.q (.ptr 4 22) ?_
  refine GX.q (.int .i64 c16.e) ?_
  refine GX.q (.bool (!decide (c16.e = 0))) ?_
  refine GX.done ?_
  rcases bool_two (decide (c16.e = 0)) with hb5 | hb5
  ·rw [hb5]; first | replace hR := cond_f hb5 hR | (try simp only [hb5, bb] at hR)
   refine WK.condT rfl ?_
   refine WK.seq ?_
   refine WK.drawn mixed ?_
   refine RD.q (.agg (TSession.c s0)) ?_
   refine RD.q (.agg [.int .i64 0, .int .i64 0, .bool false, .bool false, .bool false, .int .u32 0, .nils]) ?_
   refine RD.m rfl ?_
   refine RD.q (.ptr 4 0) ?_
   refine RD.q (.ptr 4 22) ?_
   refine RD.q (.int .i64 c16.e) ?_
   iterate 2 refine RD.step0 (heap' := [(0, .box (TSession.c s0)), (1, .box (TDesc.c d1)), (2, .box (TSession.c s0)), (3, .box [.int .i64 0, .int .i64 0, .bool false, .bool false, .bool false, .int .u32 0, .nils]), (4, .box (TTalk.c c16)), (5, .box [.ptr 4 0])]) (next' := 6) rfl rfl rfl rfl rfl ?_
   iterate 2 refine RD.m rfl ?_
   refine RD.done rfl ?_
   refine WK.ret ?_
   obtain rfl := Option.some.inj hR
   exact RetQ.frw [] (.inr rfl) rfl rfl rfl (.tup (.cons .refl (.cons (.agg (.cons .refl (.cons .refl (.cons .refl (.cons .refl (.cons .refl (.cons .refl (.cons .nil .refl)))))))) .refl)))
  ·rw [hb5]; first | replace hR := cond_t hb5 hR | (try simp only [hb5, bb] at hR)
   refine WK.condF rfl ?_
   refine WK.skip ?_
   refine WK.seq ?_
   refine WK.drawn mixed ?_
   refine RD.m rfl ?_
   iterate 2 refine RD.q (.ptr 4 0) ?_
   refine RD.q (.agg [.int .u32 c16.Session.Own, .int .u32 c16.Session.Peer, .int .i64 c16.Session.Phase, .bool c16.Session.Leads, .int .u32 c16.Session.Seq, .ro 8 (c16.Session.Left.map THeader.c), .ro 8 (c16.Session.Got.map THeader.c), .int .i64 c16.Session.Last.MTU, .int .i64 c16.Session.Last.Options, .bool c16.Session.Last.Init, .bool c16.Session.Last.More, .bool c16.Session.Last.Master, .int .u32 c16.Session.Last.Seq, .ro 8 (c16.Session.Last.Heads.map THeader.c)]) ?_
   refine RD.m rfl ?_
   refine RD.q (.ptr 4 0) ?_
   refine RD.q (.ptr 4 14) ?_
   refine RD.q (.agg [.int .i64 c16.out.MTU, .int .i64 c16.out.Options, .bool c16.out.Init, .bool c16.out.More, .bool c16.out.Master, .int .u32 c16.out.Seq, .ro 8 (c16.out.Heads.map THeader.c)]) ?_
   refine RD.m rfl ?_
   refine RD.q (.ptr 4 0) ?_
   refine RD.q (.ptr 4 21) ?_
   refine RD.q (.bool c16.sent) ?_
   refine RD.step0 (heap' := [(0, .box (TSession.c s0)), (1, .box (TDesc.c d1)), (2, .box (TSession.c c16.Session)), (3, .box [.int .i64 0, .int .i64 0, .bool false, .bool false, .bool false, .int .u32 0, .nils]), (4, .box (TTalk.c c16)), (5, .box [.ptr 4 0])]) (next' := 6) rfl rfl rfl rfl rfl ?_
   refine RD.step0 (heap' := [(0, .box (TSession.c s0)), (1, .box (TDesc.c d1)), (2, .box (TSession.c c16.Session)), (3, .box (TDesc.c c16.out)), (4, .box (TTalk.c c16)), (5, .box [.ptr 4 0])]) (next' := 6) rfl rfl rfl rfl rfl ?_
   iterate 2 refine RD.m rfl ?_
   refine RD.done rfl ?_
   refine WK.ret ?_
   obtain rfl := Option.some.inj hR
   exact RetQ.fr [] (.inr rfl) rfl rfl rfl rfl
 ·try dsimp only at hR
  refine RD.callx (r' := .fn 45 [] [.ptr 5 0]) (heap' := [(0, .box (TSession.c s0)), (1, .box (TDesc.c d1)), (2, .box [.int .u32 0, .int .u32 0, .int .i64 0, .bool false, .int .u32 0, .nils, .nils, .int .i64 0, .int .i64 0, .bool false, .bool false, .bool false, .int .u32 0, .nils]), (3, .box [.int .i64 0, .int .i64 0, .bool false, .bool false, .bool false, .int .u32 0, .nils]), (4, .box (TTalk.c c14b)), (5, .box [.ptr 4 0])]) (next' := 6) [4] [] rfl rfl rfl rfl rfl rfl (f28_ok (⟨s0, (⟨0, 0, false, false, false, 0, ([] : List THeader)⟩ : TDesc), false, 0⟩ : TTalk) d1 _ hc14) (.inl rfl) rfl rfl rfl ?_
  refine RD.q (.agg (TDesc.c d1)) ?_
  generalize hc16 : F45_exch_talk_hears_1 d1 c14b = c16 at hR
  try dsimp only at hR
  refine RD.callvx (r' := .tup []) (heap' := [(0, .box (TSession.c s0)), (1, .box (TDesc.c d1)), (2, .box [.int .u32 0, .int .u32 0, .int .i64 0, .bool false, .int .u32 0, .nils, .nils, .int .i64 0, .int .i64 0, .bool false, .bool false, .bool false, .int .u32 0, .nils]), (3, .box [.int .i64 0, .int .i64 0, .bool false, .bool false, .bool false, .int .u32 0, .nils]), (4, .box (TTalk.c c16)), (5, .box [.ptr 4 0])]) (next' := 6) [4, 5] [] rfl rfl rfl rfl rfl rfl (f45_ok d1 c14b _ hc16) (.inl rfl) rfl rfl rfl ?_
  refine RD.done rfl ?_
  refine WK.seq ?_
  refine WK.sr mixed ?_
  refine GX.m rfl ?_
  refine GX.q (.ptr 4 0) ?_
  refine GX.q (.ptr 4 22) ?_
  refine GX.q (.int .i64 c16.e) ?_
  refine GX.q (.bool (!decide (c16.e = 0))) ?_
  refine GX.done ?_
  rcases bool_two (decide (c16.e = 0)) with hb7 | hb7
  ·rw [hb7]; first | replace hR := cond_f hb7 hR | (try simp only [hb7, bb] at hR)
   refine WK.condT rfl ?_
   refine WK.seq ?_
   refine WK.drawn mixed ?_
   refine RD.q (.agg (TSession.c s0)) ?_
   refine RD.q (.agg [.int .i64 0, .int .i64 0, .bool false, .bool false, .bool false, .int .u32 0, .nils]) ?_
   refine RD.m rfl ?_
   refine RD.q (.ptr 4 0) ?_
   refine RD.q (.ptr 4 22) ?_
   refine RD.q (.int .i64 c16.e) ?_
   iterate 2 refine RD.step0 (heap' := [(0, .box (TSession.c s0)), (1, .box (TDesc.c d1)), (2, .box (TSession.c s0)), (3, .box [.int .i64 0, .int .i64 0, .bool false, .bool false, .bool false, .int .u32 0, .nils]), (4, .box (TTalk.c c16)), (5, .box [.ptr 4 0])]) (next' := 6) rfl rfl rfl rfl rfl ?_
   iterate 2 refine RD.m rfl ?_
   refine RD.done rfl ?_
   refine WK.ret ?_
   obtain rfl := Option.some.inj hR
   exact RetQ.frw [] (.inr rfl) rfl rfl rfl (.tup (.cons .refl (.cons (.agg (.cons .refl (.cons .refl (.cons .refl (.cons .refl (.cons .refl (.cons .refl (.cons .nil .refl)))))))) .refl)))
  ·rw [hb7]; first | replace hR := cond_t hb7 hR | (try simp only [hb7, bb] at hR)
   refine WK.condF rfl ?_
   refine WK.skip ?_
   refine WK.seq ?_
   refine WK.drawn mixed ?_
   refine RD.m rfl ?_
   iterate 2 refine RD.q (.ptr 4 0) ?_
   refine RD.q (.agg [.int .u32 c16.Session.Own, .int .u32 c16.Session.Peer, .int .i64 c16.Session.Phase, .bool c16.Session.Leads, .int .u32 c16.Session.Seq, .ro 8 (c16.Session.Left.map THeader.c), .ro 8 (c16.Session.Got.map THeader.c), .int .i64 c16.Session.Last.MTU, .int .i64 c16.Session.Last.Options, .bool c16.Session.Last.Init, .bool c16.Session.Last.More, .bool c16.Session.Last.Master, .int .u32 c16.Session.Last.Seq, .ro 8 (c16.Session.Last.Heads.map THeader.c)]) ?_
   refine RD.m rfl ?_
   refine RD.q (.ptr 4 0) ?_
   refine RD.q (.ptr 4 14) ?_
   refine RD.q (.agg [.int .i64 c16.out.MTU, .int .i64 c16.out.Options, .bool c16.out.Init, .bool c16.out.More, .bool c16.out.Master, .int .u32 c16.out.Seq, .ro 8 (c16.out.Heads.map THeader.c)]) ?_
   refine RD.m rfl ?_
   refine RD.q (.ptr 4 0) ?_
   refine RD.q (.ptr 4 21) ?_
   refine RD.q (.bool c16.sent) ?_
   refine RD.step0 (heap' := [(0, .box (TSession.c s0)), (1, .box (TDesc.c d1)), (2, .box (TSession.c c16.Session)), (3, .box [.int .i64 0, .int .i64 0, .bool false, .bool false, .bool false, .int .u32 0, .nils]), (4, .box (TTalk.c c16)), (5, .box [.ptr 4 0])]) (next' := 6) rfl rfl rfl rfl rfl ?_
   refine RD.step0 (heap' := [(0, .box (TSession.c s0)), (1, .box (TDesc.c d1)), (2, .box (TSession.c c16.Session)), (3, .box (TDesc.c c16.out)), (4, .box (TTalk.c c16)), (5, .box [.ptr 4 0])]) (next' := 6) rfl rfl rfl rfl rfl ?_
   iterate 2 refine RD.m rfl ?_
   refine RD.done rfl ?_
   refine WK.ret ?_
   obtain rfl := Option.some.inj hR
   exact RetQ.fr [] (.inr rfl) rfl rfl rfl rfl
 ·try dsimp only at hR
  refine RD.callx (r' := .fn 44 [.ptr 4 0] []) (heap' := [(0, .box (TSession.c s0)), (1, .box (TDesc.c d1)), (2, .box [.int .u32 0, .int .u32 0, .int .i64 0, .bool false, .int .u32 0, .nils, .nils, .int .i64 0, .int .i64 0, .bool false, .bool false, .bool false, .int .u32 0, .nils]), (3, .box [.int .i64 0, .int .i64 0, .bool false, .bool false, .bool false, .int .u32 0, .nils]), (4, .box (TTalk.c c14b)), (5, .box [.ptr 4 0])]) (next' := 6) [4] [] rfl rfl rfl rfl rfl rfl (f28_ok (⟨s0, (⟨0, 0, false, false, false, 0, ([] : List THeader)⟩ : TDesc), false, 0⟩ : TTalk) d1 _ hc14) (.inl rfl) rfl rfl rfl ?_
  refine RD.q (.agg (TDesc.c d1)) ?_
  generalize hc16 : F44_exch_talk_begin c14b d1 = c16 at hR
  rcases c16 with _ | c16
  ·try dsimp only at hR
   cases hR
  try dsimp only at hR
  try dsimp only at hR
  refine RD.callvx (r' := .tup []) (heap' := [(0, .box (TSession.c s0)), (1, .box (TDesc.c d1)), (2, .box [.int .u32 0, .int .u32 0, .int .i64 0, .bool false, .int .u32 0, .nils, .nils, .int .i64 0, .int .i64 0, .bool false, .bool false, .bool false, .int .u32 0, .nils]), (3, .box [.int .i64 0, .int .i64 0, .bool false, .bool false, .bool false, .int .u32 0, .nils]), (4, .box (TTalk.c c16)), (5, .box [.ptr 4 0])]) (next' := 6) [4] [] rfl rfl rfl rfl rfl rfl (f44_ok c14b d1 _ hc16) (.inl rfl) rfl rfl rfl ?_
  refine RD.done rfl ?_
  refine WK.seq ?_
  refine WK.sr mixed ?_
  refine GX.m rfl ?_
  refine GX.q (.ptr 4 0) ?_
  refine GX.q (.ptr 4 22) ?_
  refine GX.q (.int .i64 c16.e) ?_
  refine GX.q (.bool (!decide (c16.e = 0))) ?_
  refine GX.done ?_
  rcases bool_two (decide (c16.e = 0)) with hb9 | hb9
  ·rw [hb9]; first | replace hR := cond_f hb9 hR | (try simp only [hb9, bb] at hR)
   refine WK.condT rfl ?_
   refine WK.seq ?_
   refine WK.drawn mixed ?_
   refine RD.q (.agg (TSession.c s0)) ?_
   refine RD.q (.agg [.int .i64 0, .int .i64 0, .bool false, .bool false, .bool false, .int .u32 0, .nils]) ?_
   refine RD.m rfl ?_
   refine RD.q (.ptr 4 0) ?_
   refine RD.q (.ptr 4 22) ?_
   refine RD.q (.int .i64 c16.e) ?_
   iterate 2 refine RD.step0 (heap' := [(0, .box (TSession.c s0)), (1, .box (TDesc.c d1)), (2, .box (TSession.c s0)), (3, .box [.int .i64 0, .int .i64 0, .bool false, .bool false, .bool false, .int .u32 0, .nils]), (4, .box (TTalk.c c16)), (5, .box [.ptr 4 0])]) (next' := 6) rfl rfl rfl rfl rfl ?_
   iterate 2 refine RD.m rfl ?_
   refine RD.done rfl ?_
   refine WK.ret ?_
   obtain rfl := Option.some.inj hR
   exact RetQ.frw [] (.inr rfl) rfl rfl rfl (.tup (.cons .refl (.cons (.agg (.cons .refl (.cons .refl (.cons .refl (.cons .refl (.cons .refl (.cons .refl (.cons .nil .refl)))))))) .refl)))
  ·rw [hb9]; first | replace hR := cond_t hb9 hR | (try simp only [hb9, bb] at hR)
   refine WK.condF rfl ?_
   refine WK.skip ?_
   refine WK.seq ?_
   refine WK.drawn mixed ?_
   refine RD.m rfl ?_
   iterate 2 refine RD.q (.ptr 4 0) ?_
   refine RD.q (.agg [.int .u32 c16.Session.Own, .int .u32 c16.Session.Peer, .int .i64 c16.Session.Phase, .bool c16.Session.Leads, .int .u32 c16.Session.Seq, .ro 8 (c16.Session.Left.map THeader.c), .ro 8 (c16.Session.Got.map THeader.c), .int .i64 c16.Session.Last.MTU, .int .i64 c16.Session.Last.Options, .bool c16.Session.Last.Init, .bool c16.Session.Last.More, .bool c16.Session.Last.Master, .int .u32 c16.Session.Last.Seq, .ro 8 (c16.Session.Last.Heads.map THeader.c)]) ?_
   refine RD.m rfl ?_
   refine RD.q (.ptr 4 0) ?_
   refine RD.q (.ptr 4 14) ?_
   refine RD.q (.agg [.int .i64 c16.out.MTU, .int .i64 c16.out.Options, .bool c16.out.Init, .bool c16.out.More, .bool c16.out.Master, .int .u32 c16.out.Seq, .ro 8 (c16.out.Heads.map THeader.c)]) ?_
   refine RD.m rfl ?_
   refine RD.q (.ptr 4 0) ?_
   refine RD.q (.ptr 4 21) ?_
   refine RD.q (.bool c16.sent) ?_
   refine RD.step0 (heap' := [(0, .box (TSession.c s0)), (1, .box (TDesc.c d1)), (2, .box (TSession.c c16.Session)), (3, .box [.int .i64 0, .int .i64 0, .bool false, .bool false, .bool false, .int .u32 0, .nils]), (4, .box (TTalk.c c16)), (5, .box [.ptr 4 0])]) (next' := 6) rfl rfl rfl rfl rfl ?_
   refine RD.step0 (heap' := [(0, .box (TSession.c s0)), (1, .box (TDesc.c d1)), (2, .box (TSession.c c16.Session)), (3, .box (TDesc.c c16.out)), (4, .box (TTalk.c c16)), (5, .box [.ptr 4 0])]) (next' := 6) rfl rfl rfl rfl rfl ?_
   iterate 2 refine RD.m rfl ?_
   refine RD.done rfl ?_
   refine WK.ret ?_
   obtain rfl := Option.some.inj hR
   exact RetQ.fr [] (.inr rfl) rfl rfl rfl rfl

theorem f8_ok  (R : Bool) (hR : F8_crossroadslaw17_alive = some R) : FnOk Try.prog 8 [] [] 0 (.bool R) [] 0 := by
 refine FnOk.wk i8 rfl rfl ?_
 unfold F8_crossroadslaw17_alive at hR
 try dsimp only at hR
 change WK _ _ _ [ac8] _ ⟨[], [], 0⟩
 unfold ac8
 refine WK.sr mixed ?_
 refine GX.m rfl ?_
 refine GX.done ?_
 refine WK.sr mixed ?_
 generalize hc16 : F9_exch_Open 1 2 5 ([] : List THeader) = c16 at hR
 rcases c16 with _ | c16
 ·try dsimp only at hR
  cases hR
 try dsimp only at hR
 obtain ⟨c16a, c16b⟩ := c16; try dsimp only at hR
 refine GX.callp (r := .tup [.agg [.int .u32 c16a.Own, .int .u32 c16a.Peer, .int .i64 c16a.Phase, .bool c16a.Leads, .int .u32 c16a.Seq, .ro 8 (c16a.Left.map THeader.c), .ro 8 (c16a.Got.map THeader.c), .int .i64 c16a.Last.MTU, .int .i64 c16a.Last.Options, .bool c16a.Last.Init, .bool c16a.Last.More, .bool c16a.Last.Master, .int .u32 c16a.Last.Seq, .ro 8 (c16a.Last.Heads.map THeader.c)], .agg [.int .i64 c16b.MTU, .int .i64 c16b.Options, .bool c16b.Init, .bool c16b.More, .bool c16b.Master, .int .u32 c16b.Seq, .ro 8 (c16b.Heads.map THeader.c)]]) rfl rfl rfl (FnOk.weak (f9_ok 1 2 5 ([] : List THeader) _ hc16) (.cons .refl (.cons .refl (.cons .refl (.cons .nil .refl))))) rfl rfl ?_
 refine GX.m rfl ?_
 refine GX.q (.agg [.int .u32 c16a.Own, .int .u32 c16a.Peer, .int .i64 c16a.Phase, .bool c16a.Leads, .int .u32 c16a.Seq, .ro 8 (c16a.Left.map THeader.c), .ro 8 (c16a.Got.map THeader.c), .int .i64 c16a.Last.MTU, .int .i64 c16a.Last.Options, .bool c16a.Last.Init, .bool c16a.Last.More, .bool c16a.Last.Master, .int .u32 c16a.Last.Seq, .ro 8 (c16a.Last.Heads.map THeader.c)]) ?_
 refine GX.q (.agg [.int .i64 c16b.MTU, .int .i64 c16b.Options, .bool c16b.Init, .bool c16b.More, .bool c16b.Master, .int .u32 c16b.Seq, .ro 8 (c16b.Heads.map THeader.c)]) ?_
 refine GX.step (v' := .ptr 0 0) (heap' := [(0, .box [.int .u32 0, .int .u32 0, .int .i64 0, .bool false, .int .u32 0, .nils, .nils, .int .i64 0, .int .i64 0, .bool false, .bool false, .bool false, .int .u32 0, .nils])]) (next' := 1) rfl rfl rfl rfl rfl rfl rfl ?_
 refine GX.step (v' := .ptr 1 0) (heap' := [(0, .box [.int .u32 0, .int .u32 0, .int .i64 0, .bool false, .int .u32 0, .nils, .nils, .int .i64 0, .int .i64 0, .bool false, .bool false, .bool false, .int .u32 0, .nils]), (1, .box [.int .i64 0, .int .i64 0, .bool false, .bool false, .bool false, .int .u32 0, .nils])]) (next' := 2) rfl rfl rfl rfl rfl rfl rfl ?_
 refine GX.step0 (heap' := [(0, .box (TSession.c c16a)), (1, .box [.int .i64 0, .int .i64 0, .bool false, .bool false, .bool false, .int .u32 0, .nils])]) (next' := 2) rfl rfl rfl rfl rfl ?_
 refine GX.step0 (heap' := [(0, .box (TSession.c c16a)), (1, .box (TDesc.c c16b))]) (next' := 2) rfl rfl rfl rfl rfl ?_
 refine GX.done ?_
 refine WK.sr mixed ?_
 generalize hc20 : F9_exch_Open 2 1 7 ([] : List THeader) = c20 at hR
 rcases c20 with _ | c20
 ·try dsimp only at hR
  cases hR
 try dsimp only at hR
 obtain ⟨c20a, c20b⟩ := c20; try dsimp only at hR
 refine GX.callp (r := .tup [.agg [.int .u32 c20a.Own, .int .u32 c20a.Peer, .int .i64 c20a.Phase, .bool c20a.Leads, .int .u32 c20a.Seq, .ro 8 (c20a.Left.map THeader.c), .ro 8 (c20a.Got.map THeader.c), .int .i64 c20a.Last.MTU, .int .i64 c20a.Last.Options, .bool c20a.Last.Init, .bool c20a.Last.More, .bool c20a.Last.Master, .int .u32 c20a.Last.Seq, .ro 8 (c20a.Last.Heads.map THeader.c)], .agg [.int .i64 c20b.MTU, .int .i64 c20b.Options, .bool c20b.Init, .bool c20b.More, .bool c20b.Master, .int .u32 c20b.Seq, .ro 8 (c20b.Heads.map THeader.c)]]) rfl rfl rfl (FnOk.weak (f9_ok 2 1 7 ([] : List THeader) _ hc20) (.cons .refl (.cons .refl (.cons .refl (.cons .nil .refl))))) rfl rfl ?_
 refine GX.m rfl ?_
 refine GX.q (.agg [.int .u32 c20a.Own, .int .u32 c20a.Peer, .int .i64 c20a.Phase, .bool c20a.Leads, .int .u32 c20a.Seq, .ro 8 (c20a.Left.map THeader.c), .ro 8 (c20a.Got.map THeader.c), .int .i64 c20a.Last.MTU, .int .i64 c20a.Last.Options, .bool c20a.Last.Init, .bool c20a.Last.More, .bool c20a.Last.Master, .int .u32 c20a.Last.Seq, .ro 8 (c20a.Last.Heads.map THeader.c)]) ?_
 refine GX.q (.agg [.int .i64 c20b.MTU, .int .i64 c20b.Options, .bool c20b.Init, .bool c20b.More, .bool c20b.Master, .int .u32 c20b.Seq, .ro 8 (c20b.Heads.map THeader.c)]) ?_
 refine GX.step (v' := .ptr 2 0) (heap' := [(0, .box (TSession.c c16a)), (1, .box (TDesc.c c16b)), (2, .box [.int .u32 0, .int .u32 0, .int .i64 0, .bool false, .int .u32 0, .nils, .nils, .int .i64 0, .int .i64 0, .bool false, .bool false, .bool false, .int .u32 0, .nils])]) (next' := 3) rfl rfl rfl rfl rfl rfl rfl ?_
 refine GX.step (v' := .ptr 3 0) (heap' := [(0, .box (TSession.c c16a)), (1, .box (TDesc.c c16b)), (2, .box [.int .u32 0, .int .u32 0, .int .i64 0, .bool false, .int .u32 0, .nils, .nils, .int .i64 0, .int .i64 0, .bool false, .bool false, .bool false, .int .u32 0, .nils]), (3, .box [.int .i64 0, .int .i64 0, .bool false, .bool false, .bool false, .int .u32 0, .nils])]) (next' := 4) rfl rfl rfl rfl rfl rfl rfl ?_
 refine GX.step0 (heap' := [(0, .box (TSession.c c16a)), (1, .box (TDesc.c c16b)), (2, .box (TSession.c c20a)), (3, .box [.int .i64 0, .int .i64 0, .bool false, .bool false, .bool false, .int .u32 0, .nils])]) (next' := 4) rfl rfl rfl rfl rfl ?_
 refine GX.step0 (heap' := [(0, .box (TSession.c c16a)), (1, .box (TDesc.c c16b)), (2, .box (TSession.c c20a)), (3, .box (TDesc.c c20b))]) (next' := 4) rfl rfl rfl rfl rfl ?_
 refine GX.done ?_
 refine WK.sr mixed ?_
 refine GX.q (.agg (TSession.c c16a)) ?_
 refine GX.q (.agg (TDesc.c c20b)) ?_
 generalize hc26 : F15_exch_Hear c16a c20b = c26 at hR
 rcases c26 with _ | c26
 ·try dsimp only at hR
  cases hR
 try dsimp only at hR
 obtain ⟨c26a, c26b, c26c, c26d⟩ := c26; try dsimp only at hR
 refine GX.callp (r := .tup [.agg [.int .u32 c26a.Own, .int .u32 c26a.Peer, .int .i64 c26a.Phase, .bool c26a.Leads, .int .u32 c26a.Seq, .ro 8 (c26a.Left.map THeader.c), .ro 8 (c26a.Got.map THeader.c), .int .i64 c26a.Last.MTU, .int .i64 c26a.Last.Options, .bool c26a.Last.Init, .bool c26a.Last.More, .bool c26a.Last.Master, .int .u32 c26a.Last.Seq, .ro 8 (c26a.Last.Heads.map THeader.c)], .agg [.int .i64 c26b.MTU, .int .i64 c26b.Options, .bool c26b.Init, .bool c26b.More, .bool c26b.Master, .int .u32 c26b.Seq, .ro 8 (c26b.Heads.map THeader.c)], .bool c26c, .int .i64 c26d]) rfl rfl rfl (f15_ok c16a c20b _ hc26) rfl rfl ?_
 refine GX.m rfl ?_
 refine GX.q (.agg [.int .u32 c26a.Own, .int .u32 c26a.Peer, .int .i64 c26a.Phase, .bool c26a.Leads, .int .u32 c26a.Seq, .ro 8 (c26a.Left.map THeader.c), .ro 8 (c26a.Got.map THeader.c), .int .i64 c26a.Last.MTU, .int .i64 c26a.Last.Options, .bool c26a.Last.Init, .bool c26a.Last.More, .bool c26a.Last.Master, .int .u32 c26a.Last.Seq, .ro 8 (c26a.Last.Heads.map THeader.c)]) ?_
 refine GX.q (.agg [.int .i64 c26b.MTU, .int .i64 c26b.Options, .bool c26b.Init, .bool c26b.More, .bool c26b.Master, .int .u32 c26b.Seq, .ro 8 (c26b.Heads.map THeader.c)]) ?_
 refine GX.q (.bool c26c) ?_
 refine GX.q (.int .i64 c26d) ?_
 refine GX.step (v' := .ptr 4 0) (heap' := [(0, .box (TSession.c c16a)), (1, .box (TDesc.c c16b)), (2, .box (TSession.c c20a)), (3, .box (TDesc.c c20b)), (4, .box [.int .i64 0, .int .i64 0, .bool false, .bool false, .bool false, .int .u32 0, .nils])]) (next' := 5) rfl rfl rfl rfl rfl rfl rfl ?_
 refine GX.step0 (heap' := [(0, .box (TSession.c c26a)), (1, .box (TDesc.c c16b)), (2, .box (TSession.c c20a)), (3, .box (TDesc.c c20b)), (4, .box [.int .i64 0, .int .i64 0, .bool false, .bool false, .bool false, .int .u32 0, .nils])]) (next' := 5) rfl rfl rfl rfl rfl ?_
 refine GX.step0 (heap' := [(0, .box (TSession.c c26a)), (1, .box (TDesc.c c16b)), (2, .box (TSession.c c20a)), (3, .box (TDesc.c c20b)), (4, .box (TDesc.c c26b))]) (next' := 5) rfl rfl rfl rfl rfl ?_
 iterate 2 refine GX.m rfl ?_
 refine GX.done ?_
 refine WK.sr mixed ?_
 refine GX.q (.agg (TSession.c c20a)) ?_
 refine GX.q (.agg (TDesc.c c16b)) ?_
 generalize hc34 : F15_exch_Hear c20a c16b = c34 at hR
 rcases c34 with _ | c34
 ·try dsimp only at hR
  cases hR
 try dsimp only at hR
 obtain ⟨c34a, c34b, c34c, c34d⟩ := c34; try dsimp only at hR
 refine GX.callp (r := .tup [.agg [.int .u32 c34a.Own, .int .u32 c34a.Peer, .int .i64 c34a.Phase, .bool c34a.Leads, .int .u32 c34a.Seq, .ro 8 (c34a.Left.map THeader.c), .ro 8 (c34a.Got.map THeader.c), .int .i64 c34a.Last.MTU, .int .i64 c34a.Last.Options, .bool c34a.Last.Init, .bool c34a.Last.More, .bool c34a.Last.Master, .int .u32 c34a.Last.Seq, .ro 8 (c34a.Last.Heads.map THeader.c)], .agg [.int .i64 c34b.MTU, .int .i64 c34b.Options, .bool c34b.Init, .bool c34b.More, .bool c34b.Master, .int .u32 c34b.Seq, .ro 8 (c34b.Heads.map THeader.c)], .bool c34c, .int .i64 c34d]) rfl rfl rfl (f15_ok c20a c16b _ hc34) rfl rfl ?_
 refine GX.m rfl ?_
 refine GX.q (.agg [.int .u32 c34a.Own, .int .u32 c34a.Peer, .int .i64 c34a.Phase, .bool c34a.Leads, .int .u32 c34a.Seq, .ro 8 (c34a.Left.map THeader.c), .ro 8 (c34a.Got.map THeader.c), .int .i64 c34a.Last.MTU, .int .i64 c34a.Last.Options, .bool c34a.Last.Init, .bool c34a.Last.More, .bool c34a.Last.Master, .int .u32 c34a.Last.Seq, .ro 8 (c34a.Last.Heads.map THeader.c)]) ?_
 refine GX.q (.agg [.int .i64 c34b.MTU, .int .i64 c34b.Options, .bool c34b.Init, .bool c34b.More, .bool c34b.Master, .int .u32 c34b.Seq, .ro 8 (c34b.Heads.map THeader.c)]) ?_
 refine GX.q (.bool c34c) ?_
 refine GX.q (.int .i64 c34d) ?_
 refine GX.step (v' := .ptr 5 0) (heap' := [(0, .box (TSession.c c26a)), (1, .box (TDesc.c c16b)), (2, .box (TSession.c c20a)), (3, .box (TDesc.c c20b)), (4, .box (TDesc.c c26b)), (5, .box [.int .u32 0, .int .u32 0, .int .i64 0, .bool false, .int .u32 0, .nils, .nils, .int .i64 0, .int .i64 0, .bool false, .bool false, .bool false, .int .u32 0, .nils])]) (next' := 6) rfl rfl rfl rfl rfl rfl rfl ?_
 refine GX.step (v' := .ptr 6 0) (heap' := [(0, .box (TSession.c c26a)), (1, .box (TDesc.c c16b)), (2, .box (TSession.c c20a)), (3, .box (TDesc.c c20b)), (4, .box (TDesc.c c26b)), (5, .box [.int .u32 0, .int .u32 0, .int .i64 0, .bool false, .int .u32 0, .nils, .nils, .int .i64 0, .int .i64 0, .bool false, .bool false, .bool false, .int .u32 0, .nils]), (6, .box [.int .i64 0, .int .i64 0, .bool false, .bool false, .bool false, .int .u32 0, .nils])]) (next' := 7) rfl rfl rfl rfl rfl rfl rfl ?_
 refine GX.step0 (heap' := [(0, .box (TSession.c c26a)), (1, .box (TDesc.c c16b)), (2, .box (TSession.c c20a)), (3, .box (TDesc.c c20b)), (4, .box (TDesc.c c26b)), (5, .box (TSession.c c34a)), (6, .box [.int .i64 0, .int .i64 0, .bool false, .bool false, .bool false, .int .u32 0, .nils])]) (next' := 7) rfl rfl rfl rfl rfl ?_
 refine GX.step0 (heap' := [(0, .box (TSession.c c26a)), (1, .box (TDesc.c c16b)), (2, .box (TSession.c c20a)), (3, .box (TDesc.c c20b)), (4, .box (TDesc.c c26b)), (5, .box (TSession.c c34a)), (6, .box (TDesc.c c34b))]) (next' := 7) rfl rfl rfl rfl rfl ?_
 iterate 2 refine GX.m rfl ?_
 refine GX.done ?_
 refine WK.sr mixed ?_
 refine GX.q (.agg (TSession.c c20a)) ?_
 refine GX.q (.agg (TDesc.c c26b)) ?_
 generalize hc42 : F15_exch_Hear c20a c26b = c42 at hR
 rcases c42 with _ | c42
 ·try dsimp only at hR
  cases hR
 try dsimp only at hR
 obtain ⟨c42a, c42b, c42c, c42d⟩ := c42; try dsimp only at hR
 refine GX.callp (r := .tup [.agg [.int .u32 c42a.Own, .int .u32 c42a.Peer, .int .i64 c42a.Phase, .bool c42a.Leads, .int .u32 c42a.Seq, .ro 8 (c42a.Left.map THeader.c), .ro 8 (c42a.Got.map THeader.c), .int .i64 c42a.Last.MTU, .int .i64 c42a.Last.Options, .bool c42a.Last.Init, .bool c42a.Last.More, .bool c42a.Last.Master, .int .u32 c42a.Last.Seq, .ro 8 (c42a.Last.Heads.map THeader.c)], .agg [.int .i64 c42b.MTU, .int .i64 c42b.Options, .bool c42b.Init, .bool c42b.More, .bool c42b.Master, .int .u32 c42b.Seq, .ro 8 (c42b.Heads.map THeader.c)], .bool c42c, .int .i64 c42d]) rfl rfl rfl (f15_ok c20a c26b _ hc42) rfl rfl ?_
 refine GX.m rfl ?_
 refine GX.q (.agg [.int .u32 c42a.Own, .int .u32 c42a.Peer, .int .i64 c42a.Phase, .bool c42a.Leads, .int .u32 c42a.Seq, .ro 8 (c42a.Left.map THeader.c), .ro 8 (c42a.Got.map THeader.c), .int .i64 c42a.Last.MTU, .int .i64 c42a.Last.Options, .bool c42a.Last.Init, .bool c42a.Last.More, .bool c42a.Last.Master, .int .u32 c42a.Last.Seq, .ro 8 (c42a.Last.Heads.map THeader.c)]) ?_
 refine GX.q (.agg [.int .i64 c42b.MTU, .int .i64 c42b.Options, .bool c42b.Init, .bool c42b.More, .bool c42b.Master, .int .u32 c42b.Seq, .ro 8 (c42b.Heads.map THeader.c)]) ?_
 refine GX.q (.bool c42c) ?_
 refine GX.q (.int .i64 c42d) ?_
 refine GX.step (v' := .ptr 7 0) (heap' := [(0, .box (TSession.c c26a)), (1, .box (TDesc.c c16b)), (2, .box (TSession.c c20a)), (3, .box (TDesc.c c20b)), (4, .box (TDesc.c c26b)), (5, .box (TSession.c c34a)), (6, .box (TDesc.c c34b)), (7, .box [.int .i64 0, .int .i64 0, .bool false, .bool false, .bool false, .int .u32 0, .nils])]) (next' := 8) rfl rfl rfl rfl rfl rfl rfl ?_
 refine GX.step0 (heap' := [(0, .box (TSession.c c26a)), (1, .box (TDesc.c c16b)), (2, .box (TSession.c c42a)), (3, .box (TDesc.c c20b)), (4, .box (TDesc.c c26b)), (5, .box (TSession.c c34a)), (6, .box (TDesc.c c34b)), (7, .box [.int .i64 0, .int .i64 0, .bool false, .bool false, .bool false, .int .u32 0, .nils])]) (next' := 8) rfl rfl rfl rfl rfl ?_
 refine GX.step0 (heap' := [(0, .box (TSession.c c26a)), (1, .box (TDesc.c c16b)), (2, .box (TSession.c c42a)), (3, .box (TDesc.c c20b)), (4, .box (TDesc.c c26b)), (5, .box (TSession.c c34a)), (6, .box (TDesc.c c34b)), (7, .box (TDesc.c c42b))]) (next' := 8) rfl rfl rfl rfl rfl ?_
 iterate 2 refine GX.m rfl ?_
 refine GX.done ?_
 refine WK.sr mixed ?_
 iterate 2 refine GX.m rfl ?_
 rcases bool_two (c26c) with hb1 | hb1
 ·rw [hb1]; first | replace hR := cond_f hb1 hR | (try simp only [hb1, bb] at hR)
  iterate 2 refine GX.skip rfl rfl ?_
  refine GX.q (.bool false) ?_
  refine GX.m rfl ?_
  iterate 2 refine GX.skip rfl rfl ?_
  refine GX.q (.bool false) ?_
  refine GX.m rfl ?_
  iterate 3 refine GX.skip rfl rfl ?_
  refine GX.q (.bool false) ?_
  refine GX.m rfl ?_
  iterate 3 refine GX.skip rfl rfl ?_
  refine GX.q (.bool false) ?_
  refine GX.m rfl ?_
  iterate 2 refine GX.skip rfl rfl ?_
  refine GX.q (.bool false) ?_
  refine GX.m rfl ?_
  iterate 3 refine GX.skip rfl rfl ?_
  refine GX.q (.bool false) ?_
  refine GX.m rfl ?_
  refine GX.done ?_
  refine WK.ret ?_
  obtain rfl := Option.some.inj hR
  exact RetQ.fr [] (.inr rfl) rfl rfl rfl rfl
 ·rw [hb1]; first | replace hR := cond_t hb1 hR | (try simp only [hb1, bb] at hR)
  refine GX.m rfl ?_
  iterate 2 refine GX.q (.bool (!c34c)) ?_
  refine GX.m rfl ?_
  rcases bool_two (c34c) with hb2 | hb2
  ·rw [hb2]; first | replace hR := cond_f hb2 hR | (try simp only [hb2, bb] at hR)
   refine GX.m rfl ?_
   iterate 2 refine GX.q (.bool (decide (c42d = 0))) ?_
   refine GX.m rfl ?_
   rcases bool_two (decide (c42d = 0)) with hb3 | hb3
   ·rw [hb3]; first | replace hR := cond_f hb3 hR | (try simp only [hb3, bb] at hR)
    iterate 3 refine GX.skip rfl rfl ?_
    refine GX.q (.bool false) ?_
    refine GX.m rfl ?_
    iterate 3 refine GX.skip rfl rfl ?_
    refine GX.q (.bool false) ?_
    refine GX.m rfl ?_
    iterate 2 refine GX.skip rfl rfl ?_
    refine GX.q (.bool false) ?_
    refine GX.m rfl ?_
    iterate 3 refine GX.skip rfl rfl ?_
    refine GX.q (.bool false) ?_
    refine GX.m rfl ?_
    refine GX.done ?_
    refine WK.ret ?_
    obtain rfl := Option.some.inj hR
    exact RetQ.fr [] (.inr rfl) rfl rfl rfl rfl
   ·rw [hb3]; first | replace hR := cond_t hb3 hR | (try simp only [hb3, bb] at hR)
    refine GX.q (.ptr 0 2) ?_
    refine GX.q (.int .i64 c26a.Phase) ?_
    iterate 2 refine GX.q (.bool (decide (c26a.Phase = 1))) ?_
    refine GX.m rfl ?_
    rcases bool_two (decide (c26a.Phase = 1)) with hb4 | hb4
    ·rw [hb4]; first | replace hR := cond_f hb4 hR | (try simp only [hb4, bb] at hR)
     iterate 3 refine GX.skip rfl rfl ?_
     refine GX.q (.bool false) ?_
     refine GX.m rfl ?_
     iterate 2 refine GX.skip rfl rfl ?_
     refine GX.q (.bool false) ?_
     refine GX.m rfl ?_
     iterate 3 refine GX.skip rfl rfl ?_
     refine GX.q (.bool false) ?_
     refine GX.m rfl ?_
     refine GX.done ?_
     refine WK.ret ?_
     obtain rfl := Option.some.inj hR
     exact RetQ.fr [] (.inr rfl) rfl rfl rfl rfl
    ·rw [hb4]; first | replace hR := cond_t hb4 hR | (try simp only [hb4, bb] at hR)
     refine GX.q (.ptr 2 2) ?_
     refine GX.q (.int .i64 c42a.Phase) ?_
     iterate 2 refine GX.q (.bool (decide (c42a.Phase = 1))) ?_
     refine GX.m rfl ?_
     rcases bool_two (decide (c42a.Phase = 1)) with hb5 | hb5
     ·rw [hb5]; first | replace hR := cond_f hb5 hR | (try simp only [hb5, bb] at hR)
      iterate 2 refine GX.skip rfl rfl ?_
      refine GX.q (.bool false) ?_
      refine GX.m rfl ?_
      iterate 3 refine GX.skip rfl rfl ?_
      refine GX.q (.bool false) ?_
      refine GX.m rfl ?_
      refine GX.done ?_
      refine WK.ret ?_
      obtain rfl := Option.some.inj hR
      exact RetQ.fr [] (.inr rfl) rfl rfl rfl rfl
     ·rw [hb5]; first | replace hR := cond_t hb5 hR | (try simp only [hb5, bb] at hR)
      refine GX.q (.ptr 2 3) ?_
      iterate 2 refine GX.q (.bool c42a.Leads) ?_
      refine GX.m rfl ?_
      rcases bool_two (c42a.Leads) with hb6 | hb6
      ·rw [hb6]; first | replace hR := cond_f hb6 hR | (try simp only [hb6, bb] at hR)
       iterate 3 refine GX.skip rfl rfl ?_
       refine GX.q (.bool false) ?_
       refine GX.m rfl ?_
       refine GX.done ?_
       refine WK.ret ?_
       obtain rfl := Option.some.inj hR
       exact RetQ.fr [] (.inr rfl) rfl rfl rfl rfl
      ·rw [hb6]; first | replace hR := cond_t hb6 hR | (try simp only [hb6, bb] at hR)
       refine GX.q (.ptr 4 5) ?_
       refine GX.q (.int .u32 c26b.Seq) ?_
       iterate 2 refine GX.q (.bool (decide (c26b.Seq = 7))) ?_
       refine GX.m rfl ?_
       refine GX.done ?_
       refine WK.ret ?_
       obtain rfl := Option.some.inj hR
       exact RetQ.fr [] (.inr rfl) rfl rfl rfl rfl
  ·rw [hb2]; first | replace hR := cond_t hb2 hR | (try simp only [hb2, bb] at hR)
   iterate 2 refine GX.skip rfl rfl ?_
   refine GX.q (.bool false) ?_
   refine GX.m rfl ?_
   iterate 3 refine GX.skip rfl rfl ?_
   refine GX.q (.bool false) ?_
   refine GX.m rfl ?_
   iterate 3 refine GX.skip rfl rfl ?_
   refine GX.q (.bool false) ?_
   refine GX.m rfl ?_
   iterate 2 refine GX.skip rfl rfl ?_
   refine GX.q (.bool false) ?_
   refine GX.m rfl ?_
   iterate 3 refine GX.skip rfl rfl ?_
   refine GX.q (.bool false) ?_
   refine GX.m rfl ?_
   refine GX.done ?_
   refine WK.ret ?_
   obtain rfl := Option.some.inj hR
   exact RetQ.fr [] (.inr rfl) rfl rfl rfl rfl

theorem f66_ok (n0 : Int) (R : (List Int)) (hR : F66_crossroadsref11_two n0 = R) : FnOk Try.prog 66 [.int .i64 n0] [] 0 (.own 0 1 0 R.length) [(0, .row 1 5 (R.map c_u8))] 1 := by
 refine FnOk.wk i66 rfl rfl ?_
 unfold F66_crossroadsref11_two at hR
 change WK _ _ _ [ac66] _ ⟨[(0, .int .i64 n0)], [], 0⟩
 unfold ac66
 refine WK.sr mixed ?_
 refine GX.m rfl ?_
 refine GX.done ?_
 refine WK.sr mixed ?_
 refine GX.m rfl ?_
 refine GX.q (.int .i64 (IntKind.i64.wrap (Int.tdiv n0 256))) ?_
 refine GX.q (.int .u8 (IntKind.u8.wrap (IntKind.i64.wrap (Int.tdiv n0 256)))) ?_
 refine GX.m rfl ?_
 refine GX.q (.int .i64 (Int.tmod n0 256)) ?_
 refine GX.q (.int .u8 (IntKind.u8.wrap (Int.tmod n0 256))) ?_
 refine GX.step (v' := .own 0 1 0 (([IntKind.u8.wrap (IntKind.i64.wrap (Int.tdiv n0 256)), IntKind.u8.wrap (Int.tmod n0 256)] : List Int)).length) (heap' := [(0, .row 1 5 (([IntKind.u8.wrap (IntKind.i64.wrap (Int.tdiv n0 256)), IntKind.u8.wrap (Int.tmod n0 256)] : List Int).map c_u8))]) (next' := 1) rfl rfl rfl rfl rfl rfl rfl ?_
 refine GX.m rfl ?_
 refine GX.done ?_
 refine WK.ret ?_
 subst hR
 exact RetQ.ret [0] [] (.inr rfl) rfl rfl rfl rfl rfl .refl rfl

theorem f67_ok (n0 : Int) (R : (List Int)) (hR : F67_crossroadsref01_Four n0 = R) : FnOk Try.prog 67 [.int .u32 n0] [] 0 (.own 0 1 0 R.length) [(0, .row 1 5 (R.map c_u8))] 1 := by
 refine FnOk.wk i67 rfl rfl ?_
 unfold F67_crossroadsref01_Four at hR
 change WK _ _ _ [ac67] _ ⟨[(0, .int .u32 n0)], [], 0⟩
 unfold ac67
 refine WK.sr mixed ?_
 refine GX.m rfl ?_
 refine GX.done ?_
 refine WK.sr mixed ?_
 refine GX.m rfl ?_
 refine GX.q (.int .u32 (Int.fdiv n0 (2 ^ 24))) ?_
 refine GX.q (.int .u8 (IntKind.u8.wrap (Int.fdiv n0 (2 ^ 24)))) ?_
 refine GX.m rfl ?_
 refine GX.q (.int .u32 (Int.fdiv n0 (2 ^ 16))) ?_
 refine GX.q (.int .u8 (IntKind.u8.wrap (Int.fdiv n0 (2 ^ 16)))) ?_
 refine GX.m rfl ?_
 refine GX.q (.int .u32 (Int.fdiv n0 (2 ^ 8))) ?_
 refine GX.q (.int .u8 (IntKind.u8.wrap (Int.fdiv n0 (2 ^ 8)))) ?_
 refine GX.m rfl ?_
 refine GX.q (.int .u8 (IntKind.u8.wrap n0)) ?_
 refine GX.step (v' := .own 0 1 0 (([IntKind.u8.wrap (Int.fdiv n0 (2 ^ 24)), IntKind.u8.wrap (Int.fdiv n0 (2 ^ 16)), IntKind.u8.wrap (Int.fdiv n0 (2 ^ 8)), IntKind.u8.wrap n0] : List Int)).length) (heap' := [(0, .row 1 5 (([IntKind.u8.wrap (Int.fdiv n0 (2 ^ 24)), IntKind.u8.wrap (Int.fdiv n0 (2 ^ 16)), IntKind.u8.wrap (Int.fdiv n0 (2 ^ 8)), IntKind.u8.wrap n0] : List Int).map c_u8))]) (next' := 1) rfl rfl rfl rfl rfl rfl rfl ?_
 refine GX.m rfl ?_
 refine GX.done ?_
 refine WK.ret ?_
 subst hR
 exact RetQ.ret [0] [] (.inr rfl) rfl rfl rfl rfl rfl .refl rfl

theorem f49_ok (h0 : THeader) (R : (List Int)) (hR : F49_crossroadsref11_raw h0 = some R) : FnOk Try.prog 49 [.agg (THeader.c h0)] [] 0 (.own 0 1 0 R.length) [(0, .row 1 5 (R.map c_u8))] 1 := by
 refine FnOk.wk i49 rfl rfl ?_
 unfold F49_crossroadsref11_raw at hR
 try dsimp only at hR
 change WK _ _ _ [ac49] _ ⟨[(0, .agg (THeader.c h0))], [], 0⟩
 unfold ac49
 refine WK.sr mixed ?_
 refine GX.step (v' := .ptr 0 0) (heap' := [(0, .box (THeader.c h0))]) (next' := 1) rfl rfl rfl rfl rfl rfl rfl ?_
 refine GX.m rfl ?_
 refine GX.done ?_
 refine WK.seq ?_
 refine WK.drawn mixed ?_
 refine RD.q (.ptr 0 0) ?_
 refine RD.q (.int .i64 h0.Age) ?_
 generalize hc6 : F66_crossroadsref11_two h0.Age = c6 at hR
 try dsimp only at hR
 refine RD.callx (r' := .own 1 1 0 c6.length) (heap' := [(0, .box (THeader.c h0)), (1, .row 1 5 (c6.map c_u8))]) (next' := 2) [] [] rfl rfl rfl rfl rfl rfl (f66_ok h0.Age _ hc6) (.inl rfl) rfl rfl rfl ?_
 refine RD.q (.ptr 0 1) ?_
 refine RD.q (.int .i64 h0.Options) ?_
 refine RD.q (.int .u8 (IntKind.u8.wrap h0.Options)) ?_
 refine RD.q (.ptr 0 2) ?_
 refine RD.q (.int .i64 h0.Typef) ?_
 refine RD.q (.int .u8 (IntKind.u8.wrap h0.Typef)) ?_
 refine RD.step (v' := .own 2 1 0 (([IntKind.u8.wrap h0.Options, IntKind.u8.wrap h0.Typef] : List Int)).length) (heap' := [(0, .box (THeader.c h0)), (1, .row 1 5 (c6.map c_u8)), (2, .row 1 5 (([IntKind.u8.wrap h0.Options, IntKind.u8.wrap h0.Typef] : List Int).map c_u8))]) (next' := 3) rfl rfl rfl rfl rfl rfl rfl ?_
 rcases bool_two (decide ((c6 ++ ([IntKind.u8.wrap h0.Options, IntKind.u8.wrap h0.Typef] : List Int)).length ≤ 140737488355328)) with hg2 | hg2
 ·simp only [hg2, bb] at hR
  try dsimp only at hR
  cases hR
 simp only [hg2, bb] at hR
 have hg2_ := of_decide_eq_true hg2
 refine RD.appT (c := c_u8) (L := c6) (X := ([IntKind.u8.wrap h0.Options, IntKind.u8.wrap h0.Typef] : List Int)) (heap' := [(0, .box (THeader.c h0)), (2, .row 1 5 (([IntKind.u8.wrap h0.Options, IntKind.u8.wrap h0.Typef] : List Int).map c_u8)), (3, .row 1 5 ((c6 ++ ([IntKind.u8.wrap h0.Options, IntKind.u8.wrap h0.Typef] : List Int)).map c_u8))]) (next' := 4) rfl rfl rfl rfl (elems_own rfl) (by ((try simp only [List.length_append, List.length_cons, List.length_nil, List.length_map, decide_eq_true_eq, decide_eq_false_iff_not] at *) <;> omega)) (by ((try simp only [List.length_append, List.length_cons, List.length_nil, List.length_map, decide_eq_true_eq, decide_eq_false_iff_not] at *) <;> omega)) rfl rfl rfl rfl ?_
 refine RD.m rfl ?_
 refine RD.done rfl ?_
 refine WK.sr mixed ?_
 refine GX.m rfl ?_
 refine GX.q (.ptr 0 3) ?_
 refine GX.q (.int .u32 h0.ID) ?_
 generalize hc18 : F67_crossroadsref01_Four h0.ID = c18 at hR
 try dsimp only at hR
 refine GX.callx (r' := .own 4 1 0 c18.length) (heap' := [(0, .box (THeader.c h0)), (2, .row 1 5 (([IntKind.u8.wrap h0.Options, IntKind.u8.wrap h0.Typef] : List Int).map c_u8)), (3, .row 1 5 ((c6 ++ ([IntKind.u8.wrap h0.Options, IntKind.u8.wrap h0.Typef] : List Int)).map c_u8)), (4, .row 1 5 (c18.map c_u8))]) (next' := 5) [] [] rfl rfl rfl rfl rfl rfl (f67_ok h0.ID _ hc18) (.inl rfl) rfl rfl rfl ?_
 rcases bool_two (decide (((c6 ++ ([IntKind.u8.wrap h0.Options, IntKind.u8.wrap h0.Typef] : List Int)) ++ c18).length ≤ 140737488355328)) with hg4 | hg4
 ·simp only [hg4, bb] at hR
  try dsimp only at hR
  cases hR
 simp only [hg4, bb] at hR
 have hg4_ := of_decide_eq_true hg4
 refine GX.appT (c := c_u8) (L := (c6 ++ ([IntKind.u8.wrap h0.Options, IntKind.u8.wrap h0.Typef] : List Int))) (X := c18) (heap' := [(0, .box (THeader.c h0)), (2, .row 1 5 (([IntKind.u8.wrap h0.Options, IntKind.u8.wrap h0.Typef] : List Int).map c_u8)), (4, .row 1 5 (c18.map c_u8)), (5, .row 1 5 (((c6 ++ ([IntKind.u8.wrap h0.Options, IntKind.u8.wrap h0.Typef] : List Int)) ++ c18).map c_u8))]) (next' := 6) rfl rfl rfl rfl (elems_own rfl) (by ((try simp only [List.length_append, List.length_cons, List.length_nil, List.length_map, decide_eq_true_eq, decide_eq_false_iff_not] at *) <;> omega)) (by ((try simp only [List.length_append, List.length_cons, List.length_nil, List.length_map, decide_eq_true_eq, decide_eq_false_iff_not] at *) <;> omega)) rfl rfl rfl rfl ?_
 refine GX.m rfl ?_
 refine GX.done ?_
 refine WK.sr mixed ?_
 refine GX.m rfl ?_
 refine GX.q (.ptr 0 4) ?_
 refine GX.q (.int .u32 h0.Adv) ?_
 generalize hc23 : F67_crossroadsref01_Four h0.Adv = c23 at hR
 try dsimp only at hR
 refine GX.callx (r' := .own 6 1 0 c23.length) (heap' := [(0, .box (THeader.c h0)), (2, .row 1 5 (([IntKind.u8.wrap h0.Options, IntKind.u8.wrap h0.Typef] : List Int).map c_u8)), (4, .row 1 5 (c18.map c_u8)), (5, .row 1 5 (((c6 ++ ([IntKind.u8.wrap h0.Options, IntKind.u8.wrap h0.Typef] : List Int)) ++ c18).map c_u8)), (6, .row 1 5 (c23.map c_u8))]) (next' := 7) [] [] rfl rfl rfl rfl rfl rfl (f67_ok h0.Adv _ hc23) (.inl rfl) rfl rfl rfl ?_
 rcases bool_two (decide ((((c6 ++ ([IntKind.u8.wrap h0.Options, IntKind.u8.wrap h0.Typef] : List Int)) ++ c18) ++ c23).length ≤ 140737488355328)) with hg6 | hg6
 ·simp only [hg6, bb] at hR
  try dsimp only at hR
  cases hR
 simp only [hg6, bb] at hR
 have hg6_ := of_decide_eq_true hg6
 refine GX.appT (c := c_u8) (L := ((c6 ++ ([IntKind.u8.wrap h0.Options, IntKind.u8.wrap h0.Typef] : List Int)) ++ c18)) (X := c23) (heap' := [(0, .box (THeader.c h0)), (2, .row 1 5 (([IntKind.u8.wrap h0.Options, IntKind.u8.wrap h0.Typef] : List Int).map c_u8)), (4, .row 1 5 (c18.map c_u8)), (6, .row 1 5 (c23.map c_u8)), (7, .row 1 5 ((((c6 ++ ([IntKind.u8.wrap h0.Options, IntKind.u8.wrap h0.Typef] : List Int)) ++ c18) ++ c23).map c_u8))]) (next' := 8) rfl rfl rfl rfl (elems_own rfl) (by ((try simp only [List.length_append, List.length_cons, List.length_nil, List.length_map, decide_eq_true_eq, decide_eq_false_iff_not] at *) <;> omega)) (by ((try simp only [List.length_append, List.length_cons, List.length_nil, List.length_map, decide_eq_true_eq, decide_eq_false_iff_not] at *) <;> omega)) rfl rfl rfl rfl ?_
 refine GX.m rfl ?_
 refine GX.done ?_
 refine WK.sr mixed ?_
 refine GX.m rfl ?_
 refine GX.q (.ptr 0 5) ?_
 refine GX.q (.int .u32 h0.Seq) ?_
 generalize hc28 : F67_crossroadsref01_Four h0.Seq = c28 at hR
 try dsimp only at hR
 refine GX.callx (r' := .own 8 1 0 c28.length) (heap' := [(0, .box (THeader.c h0)), (2, .row 1 5 (([IntKind.u8.wrap h0.Options, IntKind.u8.wrap h0.Typef] : List Int).map c_u8)), (4, .row 1 5 (c18.map c_u8)), (6, .row 1 5 (c23.map c_u8)), (7, .row 1 5 ((((c6 ++ ([IntKind.u8.wrap h0.Options, IntKind.u8.wrap h0.Typef] : List Int)) ++ c18) ++ c23).map c_u8)), (8, .row 1 5 (c28.map c_u8))]) (next' := 9) [] [] rfl rfl rfl rfl rfl rfl (f67_ok h0.Seq _ hc28) (.inl rfl) rfl rfl rfl ?_
 rcases bool_two (decide (((((c6 ++ ([IntKind.u8.wrap h0.Options, IntKind.u8.wrap h0.Typef] : List Int)) ++ c18) ++ c23) ++ c28).length ≤ 140737488355328)) with hg8 | hg8
 ·simp only [hg8, bb] at hR
  try dsimp only at hR
  cases hR
 simp only [hg8, bb] at hR
 have hg8_ := of_decide_eq_true hg8
 refine GX.appT (c := c_u8) (L := (((c6 ++ ([IntKind.u8.wrap h0.Options, IntKind.u8.wrap h0.Typef] : List Int)) ++ c18) ++ c23)) (X := c28) (heap' := [(0, .box (THeader.c h0)), (2, .row 1 5 (([IntKind.u8.wrap h0.Options, IntKind.u8.wrap h0.Typef] : List Int).map c_u8)), (4, .row 1 5 (c18.map c_u8)), (6, .row 1 5 (c23.map c_u8)), (8, .row 1 5 (c28.map c_u8)), (9, .row 1 5 (((((c6 ++ ([IntKind.u8.wrap h0.Options, IntKind.u8.wrap h0.Typef] : List Int)) ++ c18) ++ c23) ++ c28).map c_u8))]) (next' := 10) rfl rfl rfl rfl (elems_own rfl) (by ((try simp only [List.length_append, List.length_cons, List.length_nil, List.length_map, decide_eq_true_eq, decide_eq_false_iff_not] at *) <;> omega)) (by ((try simp only [List.length_append, List.length_cons, List.length_nil, List.length_map, decide_eq_true_eq, decide_eq_false_iff_not] at *) <;> omega)) rfl rfl rfl rfl ?_
 refine GX.m rfl ?_
 refine GX.done ?_
 refine WK.sr mixed ?_
 refine GX.m rfl ?_
 refine GX.q (.ptr 0 6) ?_
 refine GX.q (.int .i64 h0.Sum) ?_
 generalize hc33 : F66_crossroadsref11_two h0.Sum = c33 at hR
 try dsimp only at hR
 refine GX.callx (r' := .own 10 1 0 c33.length) (heap' := [(0, .box (THeader.c h0)), (2, .row 1 5 (([IntKind.u8.wrap h0.Options, IntKind.u8.wrap h0.Typef] : List Int).map c_u8)), (4, .row 1 5 (c18.map c_u8)), (6, .row 1 5 (c23.map c_u8)), (8, .row 1 5 (c28.map c_u8)), (9, .row 1 5 (((((c6 ++ ([IntKind.u8.wrap h0.Options, IntKind.u8.wrap h0.Typef] : List Int)) ++ c18) ++ c23) ++ c28).map c_u8)), (10, .row 1 5 (c33.map c_u8))]) (next' := 11) [] [] rfl rfl rfl rfl rfl rfl (f66_ok h0.Sum _ hc33) (.inl rfl) rfl rfl rfl ?_
 rcases bool_two (decide ((((((c6 ++ ([IntKind.u8.wrap h0.Options, IntKind.u8.wrap h0.Typef] : List Int)) ++ c18) ++ c23) ++ c28) ++ c33).length ≤ 140737488355328)) with hg10 | hg10
 ·simp only [hg10, bb] at hR
  try dsimp only at hR
  cases hR
 simp only [hg10, bb] at hR
 have hg10_ := of_decide_eq_true hg10
 refine GX.appT (c := c_u8) (L := ((((c6 ++ ([IntKind.u8.wrap h0.Options, IntKind.u8.wrap h0.Typef] : List Int)) ++ c18) ++ c23) ++ c28)) (X := c33) (heap' := [(0, .box (THeader.c h0)), (2, .row 1 5 (([IntKind.u8.wrap h0.Options, IntKind.u8.wrap h0.Typef] : List Int).map c_u8)), (4, .row 1 5 (c18.map c_u8)), (6, .row 1 5 (c23.map c_u8)), (8, .row 1 5 (c28.map c_u8)), (10, .row 1 5 (c33.map c_u8)), (11, .row 1 5 ((((((c6 ++ ([IntKind.u8.wrap h0.Options, IntKind.u8.wrap h0.Typef] : List Int)) ++ c18) ++ c23) ++ c28) ++ c33).map c_u8))]) (next' := 12) rfl rfl rfl rfl (elems_own rfl) (by ((try simp only [List.length_append, List.length_cons, List.length_nil, List.length_map, decide_eq_true_eq, decide_eq_false_iff_not] at *) <;> omega)) (by ((try simp only [List.length_append, List.length_cons, List.length_nil, List.length_map, decide_eq_true_eq, decide_eq_false_iff_not] at *) <;> omega)) rfl rfl rfl rfl ?_
 refine GX.m rfl ?_
 refine GX.done ?_
 refine WK.sr mixed ?_
 refine GX.m rfl ?_
 refine GX.q (.ptr 0 7) ?_
 refine GX.q (.int .i64 h0.Long) ?_
 generalize hc38 : F66_crossroadsref11_two h0.Long = c38 at hR
 try dsimp only at hR
 refine GX.callx (r' := .own 12 1 0 c38.length) (heap' := [(0, .box (THeader.c h0)), (2, .row 1 5 (([IntKind.u8.wrap h0.Options, IntKind.u8.wrap h0.Typef] : List Int).map c_u8)), (4, .row 1 5 (c18.map c_u8)), (6, .row 1 5 (c23.map c_u8)), (8, .row 1 5 (c28.map c_u8)), (10, .row 1 5 (c33.map c_u8)), (11, .row 1 5 ((((((c6 ++ ([IntKind.u8.wrap h0.Options, IntKind.u8.wrap h0.Typef] : List Int)) ++ c18) ++ c23) ++ c28) ++ c33).map c_u8)), (12, .row 1 5 (c38.map c_u8))]) (next' := 13) [] [] rfl rfl rfl rfl rfl rfl (f66_ok h0.Long _ hc38) (.inl rfl) rfl rfl rfl ?_
 rcases bool_two (decide (((((((c6 ++ ([IntKind.u8.wrap h0.Options, IntKind.u8.wrap h0.Typef] : List Int)) ++ c18) ++ c23) ++ c28) ++ c33) ++ c38).length ≤ 140737488355328)) with hg12 | hg12
 ·simp only [hg12, bb] at hR
  try dsimp only at hR
  cases hR
 simp only [hg12, bb] at hR
 have hg12_ := of_decide_eq_true hg12
 refine GX.appT (c := c_u8) (L := (((((c6 ++ ([IntKind.u8.wrap h0.Options, IntKind.u8.wrap h0.Typef] : List Int)) ++ c18) ++ c23) ++ c28) ++ c33)) (X := c38) (heap' := [(0, .box (THeader.c h0)), (2, .row 1 5 (([IntKind.u8.wrap h0.Options, IntKind.u8.wrap h0.Typef] : List Int).map c_u8)), (4, .row 1 5 (c18.map c_u8)), (6, .row 1 5 (c23.map c_u8)), (8, .row 1 5 (c28.map c_u8)), (10, .row 1 5 (c33.map c_u8)), (12, .row 1 5 (c38.map c_u8)), (13, .row 1 5 (((((((c6 ++ ([IntKind.u8.wrap h0.Options, IntKind.u8.wrap h0.Typef] : List Int)) ++ c18) ++ c23) ++ c28) ++ c33) ++ c38).map c_u8))]) (next' := 14) rfl rfl rfl rfl (elems_own rfl) (by ((try simp only [List.length_append, List.length_cons, List.length_nil, List.length_map, decide_eq_true_eq, decide_eq_false_iff_not] at *) <;> omega)) (by ((try simp only [List.length_append, List.length_cons, List.length_nil, List.length_map, decide_eq_true_eq, decide_eq_false_iff_not] at *) <;> omega)) rfl rfl rfl rfl ?_
 refine GX.m rfl ?_
 refine GX.done ?_
 refine WK.ret ?_
 obtain rfl := Option.some.inj hR
 exact RetQ.ret [13] [] (.inr rfl) rfl rfl rfl rfl rfl .refl rfl

theorem f68_ok (h0 : THeader) (R : Bool) (hR : F68_crossroadsref11_May h0 = R) : FnOk Try.prog 68 [.agg (THeader.c h0)] [] 0 (.bool R) [] 0 := by
 refine FnOk.wk i68 rfl rfl ?_
 unfold F68_crossroadsref11_May at hR
 change WK _ _ _ [ac68] _ ⟨[(0, .agg (THeader.c h0))], [], 0⟩
 unfold ac68
 refine WK.sr mixed ?_
 refine GX.step (v' := .ptr 0 0) (heap' := [(0, .box (THeader.c h0))]) (next' := 1) rfl rfl rfl rfl rfl rfl rfl ?_
 refine GX.m rfl ?_
 refine GX.done ?_
 refine WK.sr mixed ?_
 refine GX.q (.ptr 0 0) ?_
 refine GX.q (.int .i64 h0.Age) ?_
 refine GX.q (.bool (decide (0 ≤ h0.Age))) ?_
 refine GX.m rfl ?_
 rcases bool_two (decide (0 ≤ h0.Age)) with hb1 | hb1
 ·rw [hb1]; try simp only [hb1, bb] at hR
  iterate 3 refine GX.skip rfl rfl ?_
  refine GX.q (.bool false) ?_
  refine GX.m rfl ?_
  iterate 3 refine GX.skip rfl rfl ?_
  refine GX.q (.bool false) ?_
  refine GX.m rfl ?_
  iterate 3 refine GX.skip rfl rfl ?_
  refine GX.q (.bool false) ?_
  refine GX.m rfl ?_
  iterate 3 refine GX.skip rfl rfl ?_
  refine GX.q (.bool false) ?_
  refine GX.m rfl ?_
  iterate 3 refine GX.skip rfl rfl ?_
  refine GX.q (.bool false) ?_
  refine GX.m rfl ?_
  iterate 3 refine GX.skip rfl rfl ?_
  refine GX.q (.bool false) ?_
  refine GX.m rfl ?_
  iterate 3 refine GX.skip rfl rfl ?_
  refine GX.q (.bool false) ?_
  refine GX.m rfl ?_
  iterate 3 refine GX.skip rfl rfl ?_
  refine GX.q (.bool false) ?_
  refine GX.m rfl ?_
  iterate 3 refine GX.skip rfl rfl ?_
  refine GX.q (.bool false) ?_
  refine GX.m rfl ?_
  iterate 3 refine GX.skip rfl rfl ?_
  refine GX.q (.bool false) ?_
  refine GX.m rfl ?_
  refine GX.done ?_
  refine WK.ret ?_
  subst hR
  exact RetQ.fr [] (.inr rfl) rfl rfl rfl rfl
 ·rw [hb1]; try simp only [hb1, bb] at hR
  refine GX.q (.ptr 0 0) ?_
  refine GX.q (.int .i64 h0.Age) ?_
  iterate 2 refine GX.q (.bool (decide (h0.Age ≤ 3600))) ?_
  refine GX.m rfl ?_
  rcases bool_two (decide (h0.Age ≤ 3600)) with hb2 | hb2
  ·rw [hb2]; try simp only [hb2, bb] at hR
   iterate 3 refine GX.skip rfl rfl ?_
   refine GX.q (.bool false) ?_
   refine GX.m rfl ?_
   iterate 3 refine GX.skip rfl rfl ?_
   refine GX.q (.bool false) ?_
   refine GX.m rfl ?_
   iterate 3 refine GX.skip rfl rfl ?_
   refine GX.q (.bool false) ?_
   refine GX.m rfl ?_
   iterate 3 refine GX.skip rfl rfl ?_
   refine GX.q (.bool false) ?_
   refine GX.m rfl ?_
   iterate 3 refine GX.skip rfl rfl ?_
   refine GX.q (.bool false) ?_
   refine GX.m rfl ?_
   iterate 3 refine GX.skip rfl rfl ?_
   refine GX.q (.bool false) ?_
   refine GX.m rfl ?_
   iterate 3 refine GX.skip rfl rfl ?_
   refine GX.q (.bool false) ?_
   refine GX.m rfl ?_
   iterate 3 refine GX.skip rfl rfl ?_
   refine GX.q (.bool false) ?_
   refine GX.m rfl ?_
   iterate 3 refine GX.skip rfl rfl ?_
   refine GX.q (.bool false) ?_
   refine GX.m rfl ?_
   refine GX.done ?_
   refine WK.ret ?_
   subst hR
   exact RetQ.fr [] (.inr rfl) rfl rfl rfl rfl
  ·rw [hb2]; try simp only [hb2, bb] at hR
   refine GX.q (.ptr 0 1) ?_
   refine GX.q (.int .i64 h0.Options) ?_
   iterate 2 refine GX.q (.bool (decide (0 ≤ h0.Options))) ?_
   refine GX.m rfl ?_
   rcases bool_two (decide (0 ≤ h0.Options)) with hb3 | hb3
   ·rw [hb3]; try simp only [hb3, bb] at hR
    iterate 3 refine GX.skip rfl rfl ?_
    refine GX.q (.bool false) ?_
    refine GX.m rfl ?_
    iterate 3 refine GX.skip rfl rfl ?_
    refine GX.q (.bool false) ?_
    refine GX.m rfl ?_
    iterate 3 refine GX.skip rfl rfl ?_
    refine GX.q (.bool false) ?_
    refine GX.m rfl ?_
    iterate 3 refine GX.skip rfl rfl ?_
    refine GX.q (.bool false) ?_
    refine GX.m rfl ?_
    iterate 3 refine GX.skip rfl rfl ?_
    refine GX.q (.bool false) ?_
    refine GX.m rfl ?_
    iterate 3 refine GX.skip rfl rfl ?_
    refine GX.q (.bool false) ?_
    refine GX.m rfl ?_
    iterate 3 refine GX.skip rfl rfl ?_
    refine GX.q (.bool false) ?_
    refine GX.m rfl ?_
    iterate 3 refine GX.skip rfl rfl ?_
    refine GX.q (.bool false) ?_
    refine GX.m rfl ?_
    refine GX.done ?_
    refine WK.ret ?_
    subst hR
    exact RetQ.fr [] (.inr rfl) rfl rfl rfl rfl
   ·rw [hb3]; try simp only [hb3, bb] at hR
    refine GX.q (.ptr 0 1) ?_
    refine GX.q (.int .i64 h0.Options) ?_
    iterate 2 refine GX.q (.bool (decide (h0.Options ≤ 255))) ?_
    refine GX.m rfl ?_
    rcases bool_two (decide (h0.Options ≤ 255)) with hb4 | hb4
    ·rw [hb4]; try simp only [hb4, bb] at hR
     iterate 3 refine GX.skip rfl rfl ?_
     refine GX.q (.bool false) ?_
     refine GX.m rfl ?_
     iterate 3 refine GX.skip rfl rfl ?_
     refine GX.q (.bool false) ?_
     refine GX.m rfl ?_
     iterate 3 refine GX.skip rfl rfl ?_
     refine GX.q (.bool false) ?_
     refine GX.m rfl ?_
     iterate 3 refine GX.skip rfl rfl ?_
     refine GX.q (.bool false) ?_
     refine GX.m rfl ?_
     iterate 3 refine GX.skip rfl rfl ?_
     refine GX.q (.bool false) ?_
     refine GX.m rfl ?_
     iterate 3 refine GX.skip rfl rfl ?_
     refine GX.q (.bool false) ?_
     refine GX.m rfl ?_
     iterate 3 refine GX.skip rfl rfl ?_
     refine GX.q (.bool false) ?_
     refine GX.m rfl ?_
     refine GX.done ?_
     refine WK.ret ?_
     subst hR
     exact RetQ.fr [] (.inr rfl) rfl rfl rfl rfl
    ·rw [hb4]; try simp only [hb4, bb] at hR
     refine GX.q (.ptr 0 2) ?_
     refine GX.q (.int .i64 h0.Typef) ?_
     iterate 2 refine GX.q (.bool (decide (1 ≤ h0.Typef))) ?_
     refine GX.m rfl ?_
     rcases bool_two (decide (1 ≤ h0.Typef)) with hb5 | hb5
     ·rw [hb5]; try simp only [hb5, bb] at hR
      iterate 3 refine GX.skip rfl rfl ?_
      refine GX.q (.bool false) ?_
      refine GX.m rfl ?_
      iterate 3 refine GX.skip rfl rfl ?_
      refine GX.q (.bool false) ?_
      refine GX.m rfl ?_
      iterate 3 refine GX.skip rfl rfl ?_
      refine GX.q (.bool false) ?_
      refine GX.m rfl ?_
      iterate 3 refine GX.skip rfl rfl ?_
      refine GX.q (.bool false) ?_
      refine GX.m rfl ?_
      iterate 3 refine GX.skip rfl rfl ?_
      refine GX.q (.bool false) ?_
      refine GX.m rfl ?_
      iterate 3 refine GX.skip rfl rfl ?_
      refine GX.q (.bool false) ?_
      refine GX.m rfl ?_
      refine GX.done ?_
      refine WK.ret ?_
      subst hR
      exact RetQ.fr [] (.inr rfl) rfl rfl rfl rfl
     ·rw [hb5]; try simp only [hb5, bb] at hR
      refine GX.q (.ptr 0 2) ?_
      refine GX.q (.int .i64 h0.Typef) ?_
      iterate 2 refine GX.q (.bool (decide (h0.Typef ≤ 7))) ?_
      refine GX.m rfl ?_
      rcases bool_two (decide (h0.Typef ≤ 7)) with hb6 | hb6
      ·rw [hb6]; try simp only [hb6, bb] at hR
       iterate 3 refine GX.skip rfl rfl ?_
       refine GX.q (.bool false) ?_
       refine GX.m rfl ?_
       iterate 3 refine GX.skip rfl rfl ?_
       refine GX.q (.bool false) ?_
       refine GX.m rfl ?_
       iterate 3 refine GX.skip rfl rfl ?_
       refine GX.q (.bool false) ?_
       refine GX.m rfl ?_
       iterate 3 refine GX.skip rfl rfl ?_
       refine GX.q (.bool false) ?_
       refine GX.m rfl ?_
       iterate 3 refine GX.skip rfl rfl ?_
       refine GX.q (.bool false) ?_
       refine GX.m rfl ?_
       refine GX.done ?_
       refine WK.ret ?_
       subst hR
       exact RetQ.fr [] (.inr rfl) rfl rfl rfl rfl
      ·rw [hb6]; try simp only [hb6, bb] at hR
       refine GX.q (.ptr 0 2) ?_
       refine GX.q (.int .i64 h0.Typef) ?_
       iterate 2 refine GX.q (.bool (!decide (h0.Typef = 6))) ?_
       refine GX.m rfl ?_
       rcases bool_two (decide (h0.Typef = 6)) with hb7 | hb7
       ·rw [hb7]; try simp only [hb7, bb] at hR
        refine GX.q (.ptr 0 6) ?_
        refine GX.q (.int .i64 h0.Sum) ?_
        iterate 2 refine GX.q (.bool (decide (0 ≤ h0.Sum))) ?_
        refine GX.m rfl ?_
        rcases bool_two (decide (0 ≤ h0.Sum)) with hb8 | hb8
        ·rw [hb8]; try simp only [hb8, bb] at hR
         iterate 3 refine GX.skip rfl rfl ?_
         refine GX.q (.bool false) ?_
         refine GX.m rfl ?_
         iterate 3 refine GX.skip rfl rfl ?_
         refine GX.q (.bool false) ?_
         refine GX.m rfl ?_
         iterate 3 refine GX.skip rfl rfl ?_
         refine GX.q (.bool false) ?_
         refine GX.m rfl ?_
         refine GX.done ?_
         refine WK.ret ?_
         subst hR
         exact RetQ.fr [] (.inr rfl) rfl rfl rfl rfl
        ·rw [hb8]; try simp only [hb8, bb] at hR
         refine GX.q (.ptr 0 6) ?_
         refine GX.q (.int .i64 h0.Sum) ?_
         iterate 2 refine GX.q (.bool (decide (h0.Sum ≤ 65535))) ?_
         refine GX.m rfl ?_
         rcases bool_two (decide (h0.Sum ≤ 65535)) with hb9 | hb9
         ·rw [hb9]; try simp only [hb9, bb] at hR
          iterate 3 refine GX.skip rfl rfl ?_
          refine GX.q (.bool false) ?_
          refine GX.m rfl ?_
          iterate 3 refine GX.skip rfl rfl ?_
          refine GX.q (.bool false) ?_
          refine GX.m rfl ?_
          refine GX.done ?_
          refine WK.ret ?_
          subst hR
          exact RetQ.fr [] (.inr rfl) rfl rfl rfl rfl
         ·rw [hb9]; try simp only [hb9, bb] at hR
          refine GX.q (.ptr 0 7) ?_
          refine GX.q (.int .i64 h0.Long) ?_
          iterate 2 refine GX.q (.bool (decide (20 ≤ h0.Long))) ?_
          refine GX.m rfl ?_
          rcases bool_two (decide (20 ≤ h0.Long)) with hb10 | hb10
          ·rw [hb10]; try simp only [hb10, bb] at hR
           iterate 3 refine GX.skip rfl rfl ?_
           refine GX.q (.bool false) ?_
           refine GX.m rfl ?_
           refine GX.done ?_
           refine WK.ret ?_
           subst hR
           exact RetQ.fr [] (.inr rfl) rfl rfl rfl rfl
          ·rw [hb10]; try simp only [hb10, bb] at hR
           refine GX.q (.ptr 0 7) ?_
           refine GX.q (.int .i64 h0.Long) ?_
           iterate 2 refine GX.q (.bool (decide (h0.Long ≤ 1400))) ?_
           refine GX.m rfl ?_
           refine GX.done ?_
           refine WK.ret ?_
           subst hR
           exact RetQ.fr [] (.inr rfl) rfl rfl rfl rfl
       ·rw [hb7]; try simp only [hb7, bb] at hR
        iterate 3 refine GX.skip rfl rfl ?_
        refine GX.q (.bool false) ?_
        refine GX.m rfl ?_
        iterate 3 refine GX.skip rfl rfl ?_
        refine GX.q (.bool false) ?_
        refine GX.m rfl ?_
        iterate 3 refine GX.skip rfl rfl ?_
        refine GX.q (.bool false) ?_
        refine GX.m rfl ?_
        iterate 3 refine GX.skip rfl rfl ?_
        refine GX.q (.bool false) ?_
        refine GX.m rfl ?_
        refine GX.done ?_
        refine WK.ret ?_
        subst hR
        exact RetQ.fr [] (.inr rfl) rfl rfl rfl rfl

theorem f50_ok (a0 : TAd) (R : Bool) (hR : F50_crossroadsref11_MayAd a0 = R) : FnOk Try.prog 50 [.agg (TAd.c a0)] [] 0 (.bool R) [] 0 := by
 refine FnOk.wk i50 rfl rfl ?_
 unfold F50_crossroadsref11_MayAd at hR
 change WK _ _ _ [ac50] _ ⟨[(0, .agg (TAd.c a0))], [], 0⟩
 unfold ac50
 refine WK.sr mixed ?_
 refine GX.step (v' := .ptr 0 0) (heap' := [(0, .box (TAd.c a0))]) (next' := 1) rfl rfl rfl rfl rfl rfl rfl ?_
 refine GX.m rfl ?_
 refine GX.done ?_
 refine WK.sr mixed ?_
 refine GX.q (.ptr 0 0) ?_
 refine GX.q (.agg [.int .i64 a0.H.Age, .int .i64 a0.H.Options, .int .i64 a0.H.Typef, .int .u32 a0.H.ID, .int .u32 a0.H.Adv, .int .u32 a0.H.Seq, .int .i64 a0.H.Sum, .int .i64 a0.H.Long]) ?_
 generalize hc5 : F68_crossroadsref11_May a0.H = c5 at hR
 try dsimp only at hR
 refine GX.callp (r := .bool c5) rfl rfl rfl (f68_ok a0.H _ hc5) rfl rfl ?_
 refine GX.m rfl ?_
 rcases bool_two (c5) with hb1 | hb1
 ·rw [hb1]; try simp only [hb1, bb] at hR
  iterate 8 refine GX.skip rfl rfl ?_
  refine GX.q (.bool false) ?_
  refine GX.m rfl ?_
  refine GX.done ?_
  refine WK.ret ?_
  subst hR
  exact RetQ.fr [] (.inr rfl) rfl rfl rfl rfl
 ·rw [hb1]; try simp only [hb1, bb] at hR
  refine GX.q (.ptr 0 0) ?_
  refine GX.q (.ptr 0 7) ?_
  refine GX.q (.int .i64 a0.H.Long) ?_
  refine GX.q (.ptr 0 8) ?_
  refine GX.q (.ro 1 (a0.B.map c_u8)) ?_
  refine GX.pure (v' := .int .i64 (a0.B.length : Int)) rfl rfl rfl rfl (len_map _ _) ?_
  refine GX.q (.int .i64 (IntKind.i64.wrap (20 + (a0.B.length : Int)))) ?_
  iterate 2 refine GX.q (.bool (decide (a0.H.Long = IntKind.i64.wrap (20 + (a0.B.length : Int))))) ?_
  refine GX.m rfl ?_
  refine GX.done ?_
  refine WK.ret ?_
  subst hR
  exact RetQ.fr [] (.inr rfl) rfl rfl rfl rfl

theorem f69_ok (b0 : List Int) (R : Int × Int) (hR : F69_crossroadsref02_Pair b0 = R) : FnOk Try.prog 69 [.ro 1 (b0.map c_u8)] [] 0 (.tup [.int .i64 R.1, .int .i64 R.2]) [] 0 := by
 refine FnOk.wk i69 rfl rfl ?_
 unfold F69_crossroadsref02_Pair at hR
 change WK _ _ _ [ac69] _ ⟨[(0, .ro 1 (b0.map c_u8))], [], 0⟩
 unfold ac69
 refine WK.sr mixed ?_
 iterate 2 refine GX.m rfl ?_
 refine GX.done ?_
 refine WK.sr mixed ?_
 iterate 2 refine GX.m rfl ?_
 refine GX.done ?_
 refine WK.seq ?_
 refine WK.sr mixed ?_
 refine GX.m rfl ?_
 refine GX.done ?_
 refine WK.len (t := 0) rfl (by simp) (fun hlen_4 => ?_)
 rw [List.length_map] at hlen_4
 generalize hZ_4 : F69_crossroadsref02_Pair_l1 0 0 b0 = Z_4 at hR
 refine WK.forK (fun k s => ∃ (i6 : Nat) (c4 : Int) (d5 : Int), i6 ≤ b0.length ∧ k = b0.length - i6 ∧ F69_crossroadsref02_Pair_l1 c4 d5 (b0.drop i6) = Z_4 ∧ s = ⟨[(0, .ro 1 (b0.map c_u8)), (4, .int .i64 c4), (5, .int .i64 d5), (6, .int .i64 (i6 : Int))], [], 0⟩) b0.length ⟨⟨[(0, .ro 1 (b0.map c_u8)), (4, .int .i64 0), (5, .int .i64 0), (6, .int .i64 (0 : Int))], [], 0⟩, Conv.keep [] [] [0, 4, 5, 6] rfl rfl (viewE_cons rfl rfl (viewE_cons rfl rfl (viewE_cons rfl rfl (viewE_cons rfl rfl viewE_nil)))) rfl rfl, 0, 0, 0, (by omega), rfl, hZ_4, rfl⟩ ?_
 rintro _ _ ⟨i6, c4, d5, hi_4, rfl, hL_4, rfl⟩ again_4 out_4 Q_4 hagain_4 hout_4 hQ_4
 refine WK.seq ?_
 refine WK.sr mixed ?_
 iterate 2 refine GX.m rfl ?_
 refine GX.pure (v' := .int .i64 (b0.length : Int)) rfl rfl rfl rfl (len_map _ _) ?_
 refine GX.q (.bool (decide ((i6 : Int) < (b0.length : Int)))) ?_
 refine GX.done ?_
 rcases bool_two (decide ((i6 : Int) < (b0.length : Int))) with hb5 | hb5
 ·rw [hb5]
  rw [drop_end hb5, F69_crossroadsref02_Pair_l1] at hL_4
  refine WK.condF rfl ?_
  refine WK.exit ?_
  refine QF.exit (hout_4 _ ?_)
  subst hL_4
  try dsimp only [cond_true, cond_false] at hR
  refine WK.sr mixed ?_
  iterate 4 refine GX.m rfl ?_
  refine GX.done ?_
  refine WK.ret ?_
  subst hR
  exact RetQ.fr [] (.inr rfl) rfl rfl rfl rfl
 ·rw [hb5]
  obtain ⟨x6, hx4, hd4, hlt4⟩ := drop_more hb5
  rw [hd4, F69_crossroadsref02_Pair_l1] at hL_4
  refine WK.condT rfl ?_
  refine WK.skip ?_
  refine WK.seq ?_
  refine WK.blockK (fun _ hK6 => ?_)
  refine WK.sr mixed ?_
  iterate 3 refine GX.m rfl ?_
  refine GX.idxT (c := c_u8) (x := x6) rfl rfl rfl (Int.natCast_nonneg _) hx4 ?_
  refine GX.q (.int .u8 x6) ?_
  refine GX.q (.int .i64 (IntKind.i64.wrap x6)) ?_
  refine GX.q (.int .i64 (IntKind.i64.wrap (c4 + (IntKind.i64.wrap x6)))) ?_
  refine GX.q (.int .i64 (Int.tmod (IntKind.i64.wrap (c4 + (IntKind.i64.wrap x6))) 255)) ?_
  refine GX.m rfl ?_
  refine GX.done ?_
  refine WK.regx mixed ?_
  iterate 2 refine GX.m rfl ?_
  refine GX.q (.int .i64 (IntKind.i64.wrap (d5 + (Int.tmod (IntKind.i64.wrap (c4 + (IntKind.i64.wrap x6))) 255)))) ?_
  refine GX.q (.int .i64 (Int.tmod (IntKind.i64.wrap (d5 + (Int.tmod (IntKind.i64.wrap (c4 + (IntKind.i64.wrap x6))) 255))) 255)) ?_
  refine GX.m rfl ?_
  refine GX.done ?_
  refine WK.nil (QF.normal (hK6 _ ?_))
  refine WK.regx mixed ?_
  refine GX.m rfl ?_
  refine GX.pure (v' := .int .i64 ((i6 + 1 : Nat) : Int)) rfl rfl rfl rfl (congrArg (PVal.int .i64) (wrap_up hlt4 hlen_4)) ?_
  refine GX.m rfl ?_
  refine GX.done ?_
  refine WK.nil (QF.normal ?_)
  exact hagain_4 _ (b0.length - (i6 + 1)) ⟨[(0, .ro 1 (b0.map c_u8)), (4, .int .i64 (Int.tmod (IntKind.i64.wrap (c4 + (IntKind.i64.wrap x6))) 255)), (5, .int .i64 (Int.tmod (IntKind.i64.wrap (d5 + (Int.tmod (IntKind.i64.wrap (c4 + (IntKind.i64.wrap x6))) 255))) 255)), (6, .int .i64 ((i6 + 1) : Int))], [], 0⟩ (by omega) (Conv.keep [] [] [0, 4, 5, 6] rfl rfl (viewE_cons rfl rfl (viewE_cons rfl rfl (viewE_cons rfl rfl (viewE_cons rfl rfl viewE_nil)))) rfl rfl) ⟨i6 + 1, (Int.tmod (IntKind.i64.wrap (c4 + (IntKind.i64.wrap x6))) 255), (Int.tmod (IntKind.i64.wrap (d5 + (Int.tmod (IntKind.i64.wrap (c4 + (IntKind.i64.wrap x6))) 255))) 255), (by omega), rfl, hL_4, rfl⟩

theorem f51_ok (b0 : List Int) (R : Bool) (hR : F51_crossroadsref02_Fits b0 = R) : FnOk Try.prog 51 [.ro 1 (b0.map c_u8)] [] 0 (.bool R) [] 0 := by
 refine FnOk.wk i51 rfl rfl ?_
 unfold F51_crossroadsref02_Fits at hR
 change WK _ _ _ [ac51] _ ⟨[(0, .ro 1 (b0.map c_u8))], [], 0⟩
 unfold ac51
 refine WK.sr mixed ?_
 refine GX.m rfl ?_
 refine GX.done ?_
 refine WK.sr mixed ?_
 refine GX.m rfl ?_
 generalize hc7 : F69_crossroadsref02_Pair b0 = c7 at hR
 obtain ⟨c7a, c7b⟩ := c7; try dsimp only at hR
 refine GX.callp (r := .tup [.int .i64 c7a, .int .i64 c7b]) rfl rfl rfl (f69_ok b0 _ hc7) rfl rfl ?_
 refine GX.m rfl ?_
 refine GX.q (.int .i64 c7a) ?_
 refine GX.q (.int .i64 c7b) ?_
 iterate 2 refine GX.m rfl ?_
 refine GX.done ?_
 refine WK.sr mixed ?_
 refine GX.m rfl ?_
 refine GX.q (.bool (decide (c7a = 0))) ?_
 refine GX.m rfl ?_
 rcases bool_two (decide (c7a = 0)) with hb1 | hb1
 ·rw [hb1]; try simp only [hb1, bb] at hR
  iterate 2 refine GX.skip rfl rfl ?_
  refine GX.q (.bool false) ?_
  refine GX.m rfl ?_
  refine GX.done ?_
  refine WK.ret ?_
  subst hR
  exact RetQ.fr [] (.inr rfl) rfl rfl rfl rfl
 ·rw [hb1]; try simp only [hb1, bb] at hR
  refine GX.m rfl ?_
  iterate 2 refine GX.q (.bool (decide (c7b = 0))) ?_
  refine GX.m rfl ?_
  refine GX.done ?_
  refine WK.ret ?_
  subst hR
  exact RetQ.fr [] (.inr rfl) rfl rfl rfl rfl

theorem f35_ok (a0 : TAd) (R : Bool) (hR : F35_crossroadsref11_Whole a0 = some R) : FnOk Try.prog 35 [.agg (TAd.c a0)] [] 0 (.bool R) [] 0 := by
 refine FnOk.wk i35 rfl rfl ?_
 unfold F35_crossroadsref11_Whole at hR
 try dsimp only at hR
 change WK _ _ _ [ac35] _ ⟨[(0, .agg (TAd.c a0))], [], 0⟩
 unfold ac35
 refine WK.sr mixed ?_
 refine GX.step (v' := .ptr 0 0) (heap' := [(0, .box (TAd.c a0))]) (next' := 1) rfl rfl rfl rfl rfl rfl rfl ?_
 refine GX.m rfl ?_
 refine GX.done ?_
 refine WK.seq ?_
 refine WK.drawn mixed ?_
 refine RD.q (.ptr 0 0) ?_
 refine RD.q (.agg [.int .i64 a0.H.Age, .int .i64 a0.H.Options, .int .i64 a0.H.Typef, .int .u32 a0.H.ID, .int .u32 a0.H.Adv, .int .u32 a0.H.Seq, .int .i64 a0.H.Sum, .int .i64 a0.H.Long]) ?_
 generalize hc6 : F49_crossroadsref11_raw a0.H = c6 at hR
 rcases c6 with _ | c6
 ·try dsimp only at hR
  cases hR
 try dsimp only at hR
 try dsimp only at hR
 refine RD.callx (r' := .own 1 1 0 c6.length) (heap' := [(0, .box (TAd.c a0)), (1, .row 1 5 (c6.map c_u8))]) (next' := 2) [] [] rfl rfl rfl rfl rfl rfl (f49_ok a0.H _ hc6) (.inl rfl) rfl rfl rfl ?_
 refine RD.q (.ptr 0 8) ?_
 refine RD.q (.ro 1 (a0.B.map c_u8)) ?_
 rcases bool_two (decide ((c6 ++ a0.B).length ≤ 140737488355328)) with hg2 | hg2
 ·simp only [hg2, bb] at hR
  try dsimp only at hR
  cases hR
 simp only [hg2, bb] at hR
 have hg2_ := of_decide_eq_true hg2
 refine RD.appT (c := c_u8) (L := c6) (X := a0.B) (heap' := [(0, .box (TAd.c a0)), (2, .row 1 5 ((c6 ++ a0.B).map c_u8))]) (next' := 3) rfl rfl rfl rfl elems_ro (by ((try simp only [List.length_append, List.length_cons, List.length_nil, List.length_map, decide_eq_true_eq, decide_eq_false_iff_not] at *) <;> omega)) (by ((try simp only [List.length_append, List.length_cons, List.length_nil, List.length_map, decide_eq_true_eq, decide_eq_false_iff_not] at *) <;> omega)) rfl rfl rfl rfl ?_
 refine RD.m rfl ?_
 refine RD.done rfl ?_
 refine WK.seq ?_
 refine WK.conv (st' := ⟨[(1, .ptr 0 0), (3, .ro 1 ((c6 ++ a0.B).map c_u8))], [(0, .box (TAd.c a0))], 1⟩) (Conv.keep [0] [2] [1, 3] rfl rfl (viewE_cons rfl rfl (viewE_cons rfl (view_rowT rfl rfl) viewE_nil)) rfl rfl) ?_ (by simp)
 refine WK.regx mixed ?_
 refine GX.q (.agg (TAd.c a0)) ?_
 generalize hc11 : F50_crossroadsref11_MayAd a0 = c11 at hR
 try dsimp only at hR
 refine GX.callp (r := .bool c11) rfl rfl rfl (f50_ok a0 _ hc11) rfl rfl ?_
 refine GX.m rfl ?_
 rcases bool_two (c11) with hb5 | hb5
 ·rw [hb5]; first | replace hR := cond_f hb5 hR | (try simp only [hb5, bb] at hR)
  iterate 3 refine GX.skip rfl rfl ?_
  refine GX.q (.bool false) ?_
  refine GX.m rfl ?_
  refine GX.done ?_
  refine WK.ret ?_
  obtain rfl := Option.some.inj hR
  exact RetQ.fr [] (.inr rfl) rfl rfl rfl rfl
 ·rw [hb5]; first | replace hR := cond_t hb5 hR | (try simp only [hb5, bb] at hR)
  refine GX.m rfl ?_
  rcases bool_two (decide ((2 : Int) ≤ ((c6 ++ a0.B).length : Int))) with hg6 | hg6
  ·simp only [hg6, bb] at hR
   try dsimp only at hR
   cases hR
  simp only [hg6, bb] at hR
  have hg6_ := of_decide_eq_true hg6
  refine GX.sliceLo (c := c_u8) (M := ((c6 ++ a0.B).drop 2)) rfl rfl rfl (by omega) (by omega) rfl ?_
  generalize hc15 : F51_crossroadsref02_Fits ((c6 ++ a0.B).drop 2) = c15 at hR
  try dsimp only at hR
  refine GX.callp (r := .bool c15) rfl rfl rfl (f51_ok ((c6 ++ a0.B).drop 2) _ hc15) rfl rfl ?_
  refine GX.q (.bool c15) ?_
  refine GX.m rfl ?_
  refine GX.done ?_
  refine WK.ret ?_
  obtain rfl := Option.some.inj hR
  exact RetQ.fr [] (.inr rfl) rfl rfl rfl rfl

theorem f80_ok (b0 : List Int) (many1 : Int) (R : Int × (List Int) × Int) (hR : F80_crossroadsref01_Take b0 many1 = some R) : FnOk Try.prog 80 [.ro 1 (b0.map c_u8), .int .i64 many1] [] 0 (.tup [.int .u32 R.1, .ro 1 (R.2.1.map c_u8), .int .i64 R.2.2]) [] 0 := by
 refine FnOk.wk i80 rfl rfl ?_
 unfold F80_crossroadsref01_Take at hR
 try dsimp only at hR
 change WK _ _ _ [ac80] _ ⟨[(0, .ro 1 (b0.map c_u8)), (1, .int .i64 many1)], [], 0⟩
 unfold ac80
 refine WK.sr mixed ?_
 iterate 3 refine GX.m rfl ?_
 refine GX.done ?_
 refine WK.seq ?_
 refine WK.sr mixed ?_
 refine GX.m rfl ?_
 refine GX.q (.bool (decide (many1 < 1))) ?_
 refine GX.m rfl ?_
 rcases bool_two (decide (many1 < 1)) with hb1 | hb1
 ·rw [hb1]; first | replace hR := cond_f hb1 hR | (try simp only [hb1, bb] at hR)
  refine GX.m rfl ?_
  iterate 2 refine GX.q (.bool (decide (4 < many1))) ?_
  refine GX.done ?_
  rcases bool_two (decide (4 < many1)) with hb2 | hb2
  ·rw [hb2]; first | replace hR := cond_f hb2 hR | (try simp only [hb2, bb] at hR)
   refine WK.condF rfl ?_
   refine WK.skip ?_
   refine WK.seq ?_
   refine WK.sr mixed ?_
   refine GX.m rfl ?_
   refine GX.pure (v' := .int .i64 (b0.length : Int)) rfl rfl rfl rfl (len_map _ _) ?_
   refine GX.m rfl ?_
   refine GX.q (.bool (decide ((b0.length : Int) < many1))) ?_
   refine GX.done ?_
   rcases bool_two (decide ((b0.length : Int) < many1)) with hb3 | hb3
   ·rw [hb3]; first | replace hR := cond_f hb3 hR | (try simp only [hb3, bb] at hR)
    refine WK.condF rfl ?_
    refine WK.skip ?_
    refine WK.sr mixed ?_
    refine GX.m rfl ?_
    refine GX.done ?_
    refine WK.seq ?_
    refine WK.sr mixed ?_
    refine GX.m rfl ?_
    refine GX.done ?_
    generalize hZ_11 : F80_crossroadsref01_Take_l1 b0 many1 (fuelUp 0 many1) 0 0 = Z_11 at hR
    refine WK.forK (fun k s => ∃ (i8 : Int) (n7 : Int), fuelUp i8 many1 ≤ k ∧ 0 ≤ i8 ∧ F80_crossroadsref01_Take_l1 b0 many1 k n7 i8 = Z_11 ∧ s = ⟨[(0, .ro 1 (b0.map c_u8)), (1, .int .i64 many1), (7, .int .u32 n7), (8, .int .i64 i8)], [], 0⟩) (fuelUp 0 many1) ⟨⟨[(0, .ro 1 (b0.map c_u8)), (1, .int .i64 many1), (7, .int .u32 0), (8, .int .i64 0)], [], 0⟩, Conv.keep [] [] [0, 1, 7, 8] rfl rfl (viewE_cons rfl rfl (viewE_cons rfl rfl (viewE_cons rfl rfl (viewE_cons rfl rfl viewE_nil)))) rfl rfl, 0, 0, Nat.le_refl _, (by omega), hZ_11, rfl⟩ ?_
    rintro k11 _ ⟨i8, n7, hfu11, hinv11_c0, hL_11, rfl⟩ again_11 out_11 Q_11 hagain_11 hout_11 hQ_11
    refine WK.seq ?_
    refine WK.sr mixed ?_
    iterate 2 refine GX.m rfl ?_
    refine GX.q (.bool (decide (i8 < many1))) ?_
    refine GX.done ?_
    rcases bool_two (decide (i8 < many1)) with hb12 | hb12
    ·rw [hb12]
     unfold F80_crossroadsref01_Take_l1 at hL_11; rw [hb12, cond_false] at hL_11
     refine WK.condF rfl ?_
     refine WK.exit ?_
     refine QF.exit (hout_11 _ ?_)
     subst hL_11
     try dsimp only [cond_true, cond_false] at hR
     refine WK.sr mixed ?_
     refine GX.m rfl ?_
     refine GX.step (v' := .own 0 1 0 (([] : List Int)).length) (heap' := [(0, .row 1 5 (([] : List Int).map c_u8))]) (next' := 1) rfl rfl rfl rfl rfl rfl rfl ?_
     iterate 2 refine GX.m rfl ?_
     rcases bool_two (decide ((0 : Int) ≤ many1)) with hg13 | hg13
     ·simp only [hg13, bb] at hR
      try dsimp only at hR
      cases hR
     simp only [hg13, bb] at hR
     have hg13_ := of_decide_eq_true hg13
     rcases bool_two (decide (many1 ≤ (b0.length : Int))) with hg14 | hg14
     ·simp only [hg14, bb] at hR
      try dsimp only at hR
      cases hR
     simp only [hg14, bb] at hR
     have hg14_ := of_decide_eq_true hg14
     refine GX.sliceLo (c := c_u8) (M := (b0.drop many1.toNat)) rfl rfl rfl (by omega) (by omega) rfl ?_
     rcases bool_two (decide ((([] : List Int) ++ (b0.drop many1.toNat)).length ≤ 140737488355328)) with hg15 | hg15
     ·simp only [hg15, bb] at hR
      try dsimp only at hR
      cases hR
     simp only [hg15, bb] at hR
     have hg15_ := of_decide_eq_true hg15
     refine GX.appT (c := c_u8) (L := ([] : List Int)) (X := (b0.drop many1.toNat)) (heap' := [(1, .row 1 5 ((b0.drop many1.toNat).map c_u8))]) (next' := 2) rfl rfl rfl rfl elems_ro (by ((try simp only [List.length_append, List.length_cons, List.length_nil, List.length_map, decide_eq_true_eq, decide_eq_false_iff_not] at *) <;> omega)) (by ((try simp only [List.length_append, List.length_cons, List.length_nil, List.length_map, decide_eq_true_eq, decide_eq_false_iff_not] at *) <;> omega)) rfl rfl rfl rfl ?_
     iterate 3 refine GX.m rfl ?_
     refine GX.done ?_
     refine WK.ret ?_
     obtain rfl := Option.some.inj hR
     exact RetQ.fr [1] (.inr rfl) rfl rfl (viewGo_cons rfl (viewGo_cons (view_rowT rfl rfl) (viewGo_cons rfl viewGo_nil))) rfl
    ·rw [hb12]
     obtain ⟨f11, rfl⟩ := fuel_pos hb12 hfu11
     unfold F80_crossroadsref01_Take_l1 at hL_11; rw [hb12, cond_true] at hL_11; dsimp only at hL_11
     refine WK.condT rfl ?_
     refine WK.skip ?_
     refine WK.seq ?_
     refine WK.blockK (fun _ hK16 => ?_)
     refine WK.regx mixed ?_
     refine GX.m rfl ?_
     refine GX.q (.int .u32 (IntKind.u32.wrap (n7 * 256))) ?_
     iterate 2 refine GX.m rfl ?_
     generalize hx916 : getI b0 i8 = x916 at hL_11
     rcases x916 with _ | x916
     ·try dsimp only at hL_11
      subst hL_11
      try dsimp only at hR
      cases hR
     try dsimp only at hL_11
     obtain ⟨hx9160, hx916j, hx916l, hx916⟩ := getI_some hx916
     refine GX.idxT (c := c_u8) (x := x916) rfl rfl rfl hx9160 hx916 ?_
     refine GX.q (.int .u8 x916) ?_
     refine GX.q (.int .u32 (IntKind.u32.wrap x916)) ?_
     refine GX.q (.int .u32 (IntKind.u32.wrap ((IntKind.u32.wrap (n7 * 256)) + (IntKind.u32.wrap x916)))) ?_
     refine GX.m rfl ?_
     refine GX.done ?_
     refine WK.nil (QF.normal (hK16 _ ?_))
     refine WK.regx mixed ?_
     refine GX.m rfl ?_
     refine GX.q (.int .i64 (IntKind.i64.wrap (i8 + 1))) ?_
     refine GX.m rfl ?_
     refine GX.done ?_
     refine WK.nil (QF.normal ?_)
     exact hagain_11 _ f11 ⟨[(0, .ro 1 (b0.map c_u8)), (1, .int .i64 many1), (7, .int .u32 (IntKind.u32.wrap ((IntKind.u32.wrap (n7 * 256)) + (IntKind.u32.wrap x916)))), (8, .int .i64 (IntKind.i64.wrap (i8 + 1)))], [], 0⟩ (Nat.lt_succ_self _) (Conv.keep [] [] [0, 1, 7, 8] rfl rfl (viewE_cons rfl rfl (viewE_cons rfl rfl (viewE_cons rfl rfl (viewE_cons rfl rfl viewE_nil)))) rfl rfl) ⟨(IntKind.i64.wrap (i8 + 1)), (IntKind.u32.wrap ((IntKind.u32.wrap (n7 * 256)) + (IntKind.u32.wrap x916))), fuel_up hb12 (by ((try simp only [List.length_append, List.length_cons, List.length_nil, decide_eq_true_eq, decide_eq_false_iff_not] at *) <;> first | omega | (rw [wrap64_of (by omega) (by omega)]; omega))) hfu11, (by ((try simp only [List.length_append, List.length_cons, List.length_nil, decide_eq_true_eq, decide_eq_false_iff_not] at *) <;> first | omega | (rw [wrap64_of (by omega) (by omega)]; omega))), hL_11, rfl⟩
   ·rw [hb3]; first | replace hR := cond_t hb3 hR | (try simp only [hb3, bb] at hR)
    refine WK.condT rfl ?_
    refine WK.sr mixed ?_
    iterate 3 refine GX.m rfl ?_
    refine GX.done ?_
    refine WK.ret ?_
    obtain rfl := Option.some.inj hR
    exact RetQ.frw [] (.inr rfl) rfl rfl rfl (.tup (.cons .refl (.cons .nil .refl)))
  ·rw [hb2]; first | replace hR := cond_t hb2 hR | (try simp only [hb2, bb] at hR)
   refine WK.condT rfl ?_
   refine WK.sr mixed ?_
   iterate 3 refine GX.m rfl ?_
   refine GX.done ?_
   refine WK.ret ?_
   obtain rfl := Option.some.inj hR
   exact RetQ.frw [] (.inr rfl) rfl rfl rfl (.tup (.cons .refl (.cons .nil .refl)))
 ·rw [hb1]; first | replace hR := cond_t hb1 hR | (try simp only [hb1, bb] at hR)
  iterate 2 refine GX.skip rfl rfl ?_
  refine GX.q (.bool true) ?_
  refine GX.done ?_
  refine WK.condT rfl ?_
  refine WK.sr mixed ?_
  iterate 3 refine GX.m rfl ?_
  refine GX.done ?_
  refine WK.ret ?_
  obtain rfl := Option.some.inj hR
  exact RetQ.frw [] (.inr rfl) rfl rfl rfl (.tup (.cons .refl (.cons .nil .refl)))

theorem f70_ok (b0 : List Int) (many1 : Int) (R : (List Int) × Int) (hR : F70_crossroadsref01_Rows b0 many1 = some R) : FnOk Try.prog 70 [.ro 1 (b0.map c_u8), .int .i64 many1] [] 0 (.tup [.ro 1 (R.1.map c_u32), .int .i64 R.2]) [] 0 := by
 refine FnOk.wk i70 rfl rfl ?_
 unfold F70_crossroadsref01_Rows at hR
 try dsimp only at hR
 change WK _ _ _ [ac70] _ ⟨[(0, .ro 1 (b0.map c_u8)), (1, .int .i64 many1)], [], 0⟩
 unfold ac70
 refine WK.sr mixed ?_
 iterate 2 refine GX.m rfl ?_
 refine GX.done ?_
 refine WK.seq ?_
 refine WK.sr mixed ?_
 refine GX.m rfl ?_
 refine GX.q (.bool (decide (many1 < 1))) ?_
 refine GX.m rfl ?_
 rcases bool_two (decide (many1 < 1)) with hb1 | hb1
 ·rw [hb1]; first | replace hR := cond_f hb1 hR | (try simp only [hb1, bb] at hR)
  refine GX.m rfl ?_
  iterate 2 refine GX.q (.bool (decide (4 < many1))) ?_
  refine GX.done ?_
  rcases bool_two (decide (4 < many1)) with hb2 | hb2
  ·rw [hb2]; first | replace hR := cond_f hb2 hR | (try simp only [hb2, bb] at hR)
   refine WK.condF rfl ?_
   refine WK.skip ?_
   refine WK.sr mixed ?_
   refine GX.step (v' := .own 0 1 0 (([] : List Int)).length) (heap' := [(0, .row 1 22 (([] : List Int).map c_u32))]) (next' := 1) rfl rfl rfl rfl rfl rfl rfl ?_
   refine GX.m rfl ?_
   refine GX.done ?_
   refine WK.seq ?_
   refine WK.len (t := 0) rfl (by simp) (fun hln0_7 => ?_)
   rw [List.length_map] at hln0_7
   generalize hZ_7 : F70_crossroadsref01_Rows_l1 many1 (b0.length + 1) b0 ([] : List Int) = Z_7 at hR
   refine WK.forK (fun k s => ∃ (b0x : List Int) (out6 : List Int), F70_crossroadsref01_Rows_l1 many1 k b0x out6 = Z_7 ∧ s = ⟨[(0, .ro 1 (b0x.map c_u8)), (1, .int .i64 many1), (6, .own 0 1 0 out6.length)], [(0, .row 1 22 (out6.map c_u32))], 1⟩) (b0.length + 1) ⟨⟨[(0, .ro 1 (b0.map c_u8)), (1, .int .i64 many1), (6, .own 0 1 0 ([] : List Int).length)], [(0, .row 1 22 (([] : List Int).map c_u32))], 1⟩, Conv.keep [0] [] [0, 1, 6] rfl rfl (viewE_cons rfl rfl (viewE_cons rfl rfl (viewE_cons rfl rfl viewE_nil))) rfl rfl, b0, ([] : List Int), hZ_7, rfl⟩ ?_
   rintro k7 _ ⟨b0x, out6, hL_7, rfl⟩ again_7 out_7 Q_7 hagain_7 hout_7 hQ_7
   rcases k7 with _ | f7
   ·unfold F70_crossroadsref01_Rows_l1 at hL_7
    try dsimp only at hL_7
    subst hL_7
    try dsimp only at hR
    cases hR
   unfold F70_crossroadsref01_Rows_l1 at hL_7; try dsimp only at hL_7
   refine WK.seq ?_
   refine WK.sr mixed ?_
   refine GX.m rfl ?_
   refine GX.pure (v' := .int .i64 (b0x.length : Int)) rfl rfl rfl rfl (len_map _ _) ?_
   refine GX.q (.bool (decide (0 < (b0x.length : Int)))) ?_
   refine GX.done ?_
   rcases bool_two (decide (0 < (b0x.length : Int))) with hb8 | hb8
   ·rw [hb8]; try simp only [hb8, bb] at hL_7
    refine WK.condF rfl ?_
    refine WK.exit ?_
    refine QF.exit (hout_7 _ ?_)
    subst hL_7
    try dsimp only [cond_true, cond_false] at hR
    refine WK.sr mixed ?_
    iterate 3 refine GX.m rfl ?_
    refine GX.done ?_
    refine WK.ret ?_
    obtain rfl := Option.some.inj hR
    exact RetQ.fr [0] (.inr rfl) rfl rfl (viewGo_cons (view_rowT rfl rfl) (viewGo_cons rfl viewGo_nil)) rfl
   ·rw [hb8]; try simp only [hb8, bb] at hL_7
    refine WK.condT rfl ?_
    refine WK.skip ?_
    refine WK.blockK (fun _ hK9 => ?_)
    refine WK.sr mixed ?_
    iterate 2 refine GX.m rfl ?_
    generalize hc23 : F80_crossroadsref01_Take b0x many1 = c23 at hL_7
    rcases c23 with _ | c23
    ·try dsimp only at hL_7
     subst hL_7
     try dsimp only at hR
     cases hR
    try dsimp only at hL_7
    obtain ⟨c23a, c23b, c23c⟩ := c23; try dsimp only at hL_7
    refine GX.callp (r := .tup [.int .u32 c23a, .ro 1 (c23b.map c_u8), .int .i64 c23c]) rfl rfl rfl (f80_ok b0x many1 _ hc23) rfl rfl ?_
    refine GX.m rfl ?_
    refine GX.q (.int .u32 c23a) ?_
    refine GX.q (.ro 1 (c23b.map c_u8)) ?_
    refine GX.q (.int .i64 c23c) ?_
    iterate 3 refine GX.m rfl ?_
    refine GX.done ?_
    refine WK.seq ?_
    refine WK.sr mixed ?_
    refine GX.m rfl ?_
    refine GX.q (.bool (!decide (c23c = 0))) ?_
    refine GX.done ?_
    rcases bool_two (decide (c23c = 0)) with hb10 | hb10
    ·rw [hb10]; try simp only [hb10, bb] at hL_7
     refine WK.condT rfl ?_
     refine WK.sr mixed ?_
     iterate 3 refine GX.m rfl ?_
     refine GX.done ?_
     refine WK.ret ?_
     refine QF.ret ?_
     refine QF.ret (hQ_7 _ _ ?_)
     subst hL_7
     try dsimp only at hR
     obtain rfl := Option.some.inj hR
     exact RetQ.frw [] (.inr rfl) rfl rfl rfl (.tup (.cons .nil .refl))
    ·rw [hb10]; try simp only [hb10, bb] at hL_7
     refine WK.condF rfl ?_
     refine WK.skip ?_
     refine WK.sr mixed ?_
     iterate 2 refine GX.m rfl ?_
     refine GX.step (v' := .own 1 1 0 (([c23a] : List Int)).length) (heap' := [(0, .row 1 22 (out6.map c_u32)), (1, .row 1 22 (([c23a] : List Int).map c_u32))]) (next' := 2) rfl rfl rfl rfl rfl rfl rfl ?_
     rcases bool_two (decide (out6.length < 1099511627776)) with hg11 | hg11
     ·simp only [hg11, bb] at hL_7
      try dsimp only at hL_7
      subst hL_7
      try dsimp only at hR
      cases hR
     simp only [hg11, bb] at hL_7
     have hg11_ := of_decide_eq_true hg11
     refine GX.appT (c := c_u32) (L := out6) (X := ([c23a] : List Int)) (heap' := [(1, .row 1 22 (([c23a] : List Int).map c_u32)), (2, .row 1 22 ((out6 ++ ([c23a] : List Int)).map c_u32))]) (next' := 3) rfl rfl rfl rfl (elems_own rfl) (by ((try simp only [List.length_append, List.length_cons, List.length_nil, List.length_map, decide_eq_true_eq, decide_eq_false_iff_not] at *) <;> omega)) (by ((try simp only [List.length_append, List.length_cons, List.length_nil, List.length_map, decide_eq_true_eq, decide_eq_false_iff_not] at *) <;> omega)) rfl rfl rfl rfl ?_
     refine GX.m rfl ?_
     refine GX.done ?_
     refine WK.regx mixed ?_
     iterate 2 refine GX.m rfl ?_
     refine GX.done ?_
     refine WK.nil (QF.normal (hK9 _ ?_))
     refine WK.nil (QF.normal ?_)
     exact hagain_7 _ f7 ⟨[(0, .ro 1 (c23b.map c_u8)), (1, .int .i64 many1), (6, .own 0 1 0 (out6 ++ ([c23a] : List Int)).length)], [(0, .row 1 22 ((out6 ++ ([c23a] : List Int)).map c_u32))], 1⟩ (Nat.lt_succ_self _) (Conv.keep [2] [] [0, 1, 6] rfl rfl (viewE_cons rfl rfl (viewE_cons rfl rfl (viewE_cons rfl rfl viewE_nil))) rfl rfl) ⟨c23b, (out6 ++ ([c23a] : List Int)), hL_7, rfl⟩
  ·rw [hb2]; first | replace hR := cond_t hb2 hR | (try simp only [hb2, bb] at hR)
   refine WK.condT rfl ?_
   refine WK.sr mixed ?_
   iterate 2 refine GX.m rfl ?_
   refine GX.done ?_
   refine WK.ret ?_
   obtain rfl := Option.some.inj hR
   exact RetQ.frw [] (.inr rfl) rfl rfl rfl (.tup (.cons .nil .refl))
 ·rw [hb1]; first | replace hR := cond_t hb1 hR | (try simp only [hb1, bb] at hR)
  iterate 2 refine GX.skip rfl rfl ?_
  refine GX.q (.bool true) ?_
  refine GX.done ?_
  refine WK.condT rfl ?_
  refine WK.sr mixed ?_
  iterate 2 refine GX.m rfl ?_
  refine GX.done ?_
  refine WK.ret ?_
  obtain rfl := Option.some.inj hR
  exact RetQ.frw [] (.inr rfl) rfl rfl rfl (.tup (.cons .nil .refl))

theorem f71_ok (x0 : TRouterBody) (R : Bool) (hR : F71_crossroadsref12_MayRouter x0 = R) : FnOk Try.prog 71 [.agg (TRouterBody.c x0)] [] 0 (.bool R) [] 0 := by
 refine FnOk.wk i71 rfl rfl ?_
 unfold F71_crossroadsref12_MayRouter at hR
 change WK _ _ _ [ac71] _ ⟨[(0, .agg (TRouterBody.c x0))], [], 0⟩
 unfold ac71
 refine WK.sr mixed ?_
 refine GX.step (v' := .ptr 0 0) (heap' := [(0, .box (TRouterBody.c x0))]) (next' := 1) rfl rfl rfl rfl rfl rfl rfl ?_
 refine GX.m rfl ?_
 refine GX.done ?_
 refine WK.seq ?_
 refine WK.sr mixed ?_
 refine GX.q (.ptr 0 0) ?_
 refine GX.q (.int .i64 x0.Flags) ?_
 refine GX.q (.bool (decide (x0.Flags < 0))) ?_
 refine GX.m rfl ?_
 rcases bool_two (decide (x0.Flags < 0)) with hb1 | hb1
 ·rw [hb1]; try simp only [hb1, bb] at hR
  refine GX.q (.ptr 0 0) ?_
  refine GX.q (.int .i64 x0.Flags) ?_
  iterate 2 refine GX.q (.bool (decide (31 < x0.Flags))) ?_
  refine GX.m rfl ?_
  rcases bool_two (decide (31 < x0.Flags)) with hb2 | hb2
  ·rw [hb2]; try simp only [hb2, bb] at hR
   refine GX.q (.ptr 0 1) ?_
   refine GX.q (.ro 4 (x0.Links.map TLink.c)) ?_
   refine GX.pure (v' := .int .i64 (x0.Links.length : Int)) rfl rfl rfl rfl (len_map _ _) ?_
   iterate 2 refine GX.q (.bool (decide (100 < (x0.Links.length : Int)))) ?_
   refine GX.done ?_
   rcases bool_two (decide (100 < (x0.Links.length : Int))) with hb3 | hb3
   ·rw [hb3]; try simp only [hb3, bb] at hR
    refine WK.condF rfl ?_
    refine WK.skip ?_
    refine WK.seq ?_
    refine WK.sr mixed ?_
    refine GX.m rfl ?_
    refine GX.done ?_
    refine WK.len (t := 15) rfl (by simp) (fun hlen_4 => ?_)
    rw [List.length_map] at hlen_4
    generalize hZ_4 : F71_crossroadsref12_MayRouter_l1 x0.Links = Z_4 at hR
    refine WK.forK (fun k s => ∃ (i3 : Nat), i3 ≤ x0.Links.length ∧ k = x0.Links.length - i3 ∧ F71_crossroadsref12_MayRouter_l1 (x0.Links.drop i3) = Z_4 ∧ s = ⟨[(1, .ptr 0 0), (3, .int .i64 (i3 : Int))], [(0, .box (TRouterBody.c x0))], 1⟩) x0.Links.length ⟨⟨[(1, .ptr 0 0), (3, .int .i64 (0 : Int))], [(0, .box (TRouterBody.c x0))], 1⟩, Conv.keep [0] [] [1, 3] rfl rfl (viewE_cons rfl rfl (viewE_cons rfl rfl viewE_nil)) rfl rfl, 0, (by omega), rfl, hZ_4, rfl⟩ ?_
    rintro _ _ ⟨i3, hi_4, rfl, hL_4, rfl⟩ again_4 out_4 Q_4 hagain_4 hout_4 hQ_4
    refine WK.seq ?_
    refine WK.sr mixed ?_
    refine GX.m rfl ?_
    refine GX.q (.ptr 0 1) ?_
    refine GX.q (.ro 4 (x0.Links.map TLink.c)) ?_
    refine GX.pure (v' := .int .i64 (x0.Links.length : Int)) rfl rfl rfl rfl (len_map _ _) ?_
    refine GX.q (.bool (decide ((i3 : Int) < (x0.Links.length : Int)))) ?_
    refine GX.done ?_
    rcases bool_two (decide ((i3 : Int) < (x0.Links.length : Int))) with hb5 | hb5
    ·rw [hb5]
     rw [drop_end hb5, F71_crossroadsref12_MayRouter_l1] at hL_4
     refine WK.condF rfl ?_
     refine WK.exit ?_
     refine QF.exit (hout_4 _ ?_)
     subst hL_4
     try dsimp only [cond_true, cond_false] at hR
     refine WK.sr mixed ?_
     refine GX.m rfl ?_
     refine GX.done ?_
     refine WK.ret ?_
     subst hR
     exact RetQ.fr [] (.inr rfl) rfl rfl rfl rfl
    ·rw [hb5]
     obtain ⟨x3, hx4, hd4, hlt4⟩ := drop_more hb5
     rw [hd4, F71_crossroadsref12_MayRouter_l1] at hL_4
     refine WK.condT rfl ?_
     refine WK.skip ?_
     refine WK.seq ?_
     refine WK.blockK (fun _ hK6 => ?_)
     refine WK.sr mixed ?_
     refine GX.q (.ptr 0 1) ?_
     refine GX.q (.ro 4 (x0.Links.map TLink.c)) ?_
     refine GX.m rfl ?_
     refine GX.idxT (c := TLink.c) (x := x3) rfl rfl rfl (Int.natCast_nonneg _) hx4 ?_
     refine GX.q (.agg (TLink.c x3)) ?_
     refine GX.step (v' := .ptr 1 0) (heap' := [(0, .box (TRouterBody.c x0)), (1, .box [.int .i64 0, .int .u32 0, .int .u32 0, .int .i64 0])]) (next' := 2) rfl rfl rfl rfl rfl rfl rfl ?_
     refine GX.step0 (heap' := [(0, .box (TRouterBody.c x0)), (1, .box (TLink.c x3))]) (next' := 2) rfl rfl rfl rfl rfl ?_
     refine GX.done ?_
     refine WK.sr mixed ?_
     refine GX.q (.ptr 1 0) ?_
     refine GX.q (.int .i64 x3.Kind) ?_
     refine GX.q (.bool (decide (x3.Kind < 1))) ?_
     refine GX.m rfl ?_
     rcases bool_two (decide (x3.Kind < 1)) with hb7 | hb7
     ·rw [hb7]; try simp only [hb7, bb] at hL_4
      refine GX.q (.ptr 1 0) ?_
      refine GX.q (.int .i64 x3.Kind) ?_
      iterate 2 refine GX.q (.bool (decide (4 < x3.Kind))) ?_
      refine GX.m rfl ?_
      rcases bool_two (decide (4 < x3.Kind)) with hb8 | hb8
      ·rw [hb8]; try simp only [hb8, bb] at hL_4
       refine GX.q (.ptr 1 3) ?_
       refine GX.q (.int .i64 x3.Cost) ?_
       iterate 2 refine GX.q (.bool (decide (x3.Cost < 0))) ?_
       refine GX.m rfl ?_
       rcases bool_two (decide (x3.Cost < 0)) with hb9 | hb9
       ·rw [hb9]; try simp only [hb9, bb] at hL_4
        refine GX.q (.ptr 1 3) ?_
        refine GX.q (.int .i64 x3.Cost) ?_
        iterate 2 refine GX.q (.bool (decide (65535 < x3.Cost))) ?_
        refine GX.done ?_
        rcases bool_two (decide (65535 < x3.Cost)) with hb10 | hb10
        ·rw [hb10]; try simp only [hb10, bb] at hL_4
         refine WK.condF rfl ?_
         refine WK.skip ?_
         refine WK.nil (QF.normal (hK6 _ ?_))
         refine WK.regx mixed ?_
         refine GX.m rfl ?_
         refine GX.pure (v' := .int .i64 ((i3 + 1 : Nat) : Int)) rfl rfl rfl rfl (congrArg (PVal.int .i64) (wrap_up hlt4 hlen_4)) ?_
         refine GX.m rfl ?_
         refine GX.done ?_
         refine WK.nil (QF.normal ?_)
         exact hagain_4 _ (x0.Links.length - (i3 + 1)) ⟨[(1, .ptr 0 0), (3, .int .i64 ((i3 + 1) : Int))], [(0, .box (TRouterBody.c x0))], 1⟩ (by omega) (Conv.keep [0] [] [1, 3] rfl rfl (viewE_cons rfl rfl (viewE_cons rfl rfl viewE_nil)) rfl rfl) ⟨i3 + 1, (by omega), rfl, hL_4, rfl⟩
        ·rw [hb10]; try simp only [hb10, bb] at hL_4
         refine WK.condT rfl ?_
         refine WK.sr mixed ?_
         refine GX.m rfl ?_
         refine GX.done ?_
         refine WK.ret ?_
         refine QF.ret ?_
         refine QF.ret (hQ_4 _ _ ?_)
         subst hL_4
         subst hR
         exact RetQ.fr [] (.inr rfl) rfl rfl rfl rfl
       ·rw [hb9]; try simp only [hb9, bb] at hL_4
        iterate 3 refine GX.skip rfl rfl ?_
        refine GX.q (.bool true) ?_
        refine GX.done ?_
        refine WK.condT rfl ?_
        refine WK.sr mixed ?_
        refine GX.m rfl ?_
        refine GX.done ?_
        refine WK.ret ?_
        refine QF.ret ?_
        refine QF.ret (hQ_4 _ _ ?_)
        subst hL_4
        subst hR
        exact RetQ.fr [] (.inr rfl) rfl rfl rfl rfl
      ·rw [hb8]; try simp only [hb8, bb] at hL_4
       iterate 3 refine GX.skip rfl rfl ?_
       refine GX.q (.bool true) ?_
       refine GX.m rfl ?_
       iterate 3 refine GX.skip rfl rfl ?_
       refine GX.q (.bool true) ?_
       refine GX.done ?_
       refine WK.condT rfl ?_
       refine WK.sr mixed ?_
       refine GX.m rfl ?_
       refine GX.done ?_
       refine WK.ret ?_
       refine QF.ret ?_
       refine QF.ret (hQ_4 _ _ ?_)
       subst hL_4
       subst hR
       exact RetQ.fr [] (.inr rfl) rfl rfl rfl rfl
     ·rw [hb7]; try simp only [hb7, bb] at hL_4
      iterate 3 refine GX.skip rfl rfl ?_
      refine GX.q (.bool true) ?_
      refine GX.m rfl ?_
      iterate 3 refine GX.skip rfl rfl ?_
      refine GX.q (.bool true) ?_
      refine GX.m rfl ?_
      iterate 3 refine GX.skip rfl rfl ?_
      refine GX.q (.bool true) ?_
      refine GX.done ?_
      refine WK.condT rfl ?_
      refine WK.sr mixed ?_
      refine GX.m rfl ?_
      refine GX.done ?_
      refine WK.ret ?_
      refine QF.ret ?_
      refine QF.ret (hQ_4 _ _ ?_)
      subst hL_4
      subst hR
      exact RetQ.fr [] (.inr rfl) rfl rfl rfl rfl
   ·rw [hb3]; try simp only [hb3, bb] at hR
    refine WK.condT rfl ?_
    refine WK.sr mixed ?_
    refine GX.m rfl ?_
    refine GX.done ?_
    refine WK.ret ?_
    subst hR
    exact RetQ.fr [] (.inr rfl) rfl rfl rfl rfl
  ·rw [hb2]; try simp only [hb2, bb] at hR
   iterate 4 refine GX.skip rfl rfl ?_
   refine GX.q (.bool true) ?_
   refine GX.done ?_
   refine WK.condT rfl ?_
   refine WK.sr mixed ?_
   refine GX.m rfl ?_
   refine GX.done ?_
   refine WK.ret ?_
   subst hR
   exact RetQ.fr [] (.inr rfl) rfl rfl rfl rfl
 ·rw [hb1]; try simp only [hb1, bb] at hR
  iterate 3 refine GX.skip rfl rfl ?_
  refine GX.q (.bool true) ?_
  refine GX.m rfl ?_
  iterate 4 refine GX.skip rfl rfl ?_
  refine GX.q (.bool true) ?_
  refine GX.done ?_
  refine WK.condT rfl ?_
  refine WK.sr mixed ?_
  refine GX.m rfl ?_
  refine GX.done ?_
  refine WK.ret ?_
  subst hR
  exact RetQ.fr [] (.inr rfl) rfl rfl rfl rfl

theorem f52_ok (b0 : List Int) (R : TRouterBody × Int) (hR : F52_crossroadsref12_ReadRouter b0 = some R) : FnOk Try.prog 52 [.ro 1 (b0.map c_u8)] [] 0 (.tup [.agg (TRouterBody.c R.1), .int .i64 R.2]) [] 0 := by
 refine FnOk.wk i52 rfl rfl ?_
 unfold F52_crossroadsref12_ReadRouter at hR
 try dsimp only at hR
 change WK _ _ _ [ac52] _ ⟨[(0, .ro 1 (b0.map c_u8))], [], 0⟩
 unfold ac52
 refine WK.sr mixed ?_
 refine GX.step (v' := .ptr 0 0) (heap' := [(0, .box [.int .i64 0, .nils])]) (next' := 1) rfl rfl rfl rfl rfl rfl rfl ?_
 refine GX.m rfl ?_
 refine GX.done ?_
 refine WK.seq ?_
 refine WK.sr mixed ?_
 refine GX.m rfl ?_
 refine GX.pure (v' := .int .i64 (b0.length : Int)) rfl rfl rfl rfl (len_map _ _) ?_
 refine GX.q (.bool (decide ((b0.length : Int) < 4))) ?_
 refine GX.done ?_
 rcases bool_two (decide ((b0.length : Int) < 4)) with hb1 | hb1
 ·rw [hb1]; first | replace hR := cond_f hb1 hR | (try simp only [hb1, bb] at hR)
  refine WK.condF rfl ?_
  refine WK.skip ?_
  refine WK.seq ?_
  refine WK.drawn mixed ?_
  refine RD.m rfl ?_
  generalize hx901 : getI b0 2 = x901 at hR
  rcases x901 with _ | x901
  ·try dsimp only at hR
   cases hR
  try dsimp only at hR
  obtain ⟨hx9010, hx901j, hx901l, hx901⟩ := getI_some hx901
  refine RD.idxT (c := c_u8) (x := x901) rfl rfl rfl hx9010 hx901 ?_
  refine RD.q (.int .u8 x901) ?_
  refine RD.q (.int .i64 (IntKind.i64.wrap x901)) ?_
  refine RD.q (.int .i64 (IntKind.i64.wrap (256 * (IntKind.i64.wrap x901)))) ?_
  refine RD.m rfl ?_
  generalize hx902 : getI b0 3 = x902 at hR
  rcases x902 with _ | x902
  ·try dsimp only at hR
   cases hR
  try dsimp only at hR
  obtain ⟨hx9020, hx902j, hx902l, hx902⟩ := getI_some hx902
  refine RD.idxT (c := c_u8) (x := x902) rfl rfl rfl hx9020 hx902 ?_
  refine RD.q (.int .u8 x902) ?_
  refine RD.q (.int .i64 (IntKind.i64.wrap x902)) ?_
  refine RD.q (.int .i64 (IntKind.i64.wrap ((IntKind.i64.wrap (256 * (IntKind.i64.wrap x901))) + (IntKind.i64.wrap x902)))) ?_
  refine RD.m rfl ?_
  refine RD.done rfl ?_
  refine WK.seq ?_
  refine WK.sr mixed ?_
  refine GX.m rfl ?_
  refine GX.pure (v' := .int .i64 (b0.length : Int)) rfl rfl rfl rfl (len_map _ _) ?_
  refine GX.m rfl ?_
  refine GX.q (.int .i64 (IntKind.i64.wrap (12 * (IntKind.i64.wrap ((IntKind.i64.wrap (256 * (IntKind.i64.wrap x901))) + (IntKind.i64.wrap x902)))))) ?_
  refine GX.q (.int .i64 (IntKind.i64.wrap (4 + (IntKind.i64.wrap (12 * (IntKind.i64.wrap ((IntKind.i64.wrap (256 * (IntKind.i64.wrap x901))) + (IntKind.i64.wrap x902)))))))) ?_
  refine GX.q (.bool (decide ((b0.length : Int) < IntKind.i64.wrap (4 + (IntKind.i64.wrap (12 * (IntKind.i64.wrap ((IntKind.i64.wrap (256 * (IntKind.i64.wrap x901))) + (IntKind.i64.wrap x902))))))))) ?_
  refine GX.done ?_
  rcases bool_two (decide ((b0.length : Int) < IntKind.i64.wrap (4 + (IntKind.i64.wrap (12 * (IntKind.i64.wrap ((IntKind.i64.wrap (256 * (IntKind.i64.wrap x901))) + (IntKind.i64.wrap x902)))))))) with hb4 | hb4
  ·rw [hb4]; first | replace hR := cond_f hb4 hR | (try simp only [hb4, bb] at hR)
   refine WK.condF rfl ?_
   refine WK.skip ?_
   refine WK.sr mixed ?_
   refine GX.m rfl ?_
   generalize hx904 : getI b0 0 = x904 at hR
   rcases x904 with _ | x904
   ·try dsimp only at hR
    cases hR
   try dsimp only at hR
   obtain ⟨hx9040, hx904j, hx904l, hx904⟩ := getI_some hx904
   refine GX.idxT (c := c_u8) (x := x904) rfl rfl rfl hx9040 hx904 ?_
   refine GX.q (.int .u8 x904) ?_
   refine GX.q (.int .i64 (IntKind.i64.wrap x904)) ?_
   refine GX.q (.agg [.int .i64 (IntKind.i64.wrap x904), .nils]) ?_
   refine GX.step (v' := .ptr 1 0) (heap' := [(0, .box [.int .i64 0, .nils]), (1, .box [.int .i64 0, .nils])]) (next' := 2) rfl rfl rfl rfl rfl rfl rfl ?_
   refine GX.step0 (heap' := [(0, .box [.int .i64 0, .nils]), (1, .box [.int .i64 (IntKind.i64.wrap x904), .nils])]) (next' := 2) rfl rfl rfl rfl rfl ?_
   refine GX.done ?_
   refine WK.sr mixed ?_
   refine GX.m rfl ?_
   generalize hx905 : getI b0 1 = x905 at hR
   rcases x905 with _ | x905
   ·try dsimp only at hR
    cases hR
   try dsimp only at hR
   obtain ⟨hx9050, hx905j, hx905l, hx905⟩ := getI_some hx905
   refine GX.idxT (c := c_u8) (x := x905) rfl rfl rfl hx9050 hx905 ?_
   refine GX.q (.int .u8 x905) ?_
   refine GX.q (.bool (decide (x905 = 0))) ?_
   refine GX.m rfl ?_
   rcases bool_two (decide (x905 = 0)) with hb7 | hb7
   ·rw [hb7]; first | replace hR := cond_f hb7 hR | (try simp only [hb7, bb] at hR)
    iterate 6 refine GX.skip rfl rfl ?_
    refine GX.q (.bool false) ?_
    refine GX.m rfl ?_
    iterate 2 refine GX.skip rfl rfl ?_
    refine GX.q (.bool false) ?_
    refine GX.m rfl ?_
    refine GX.done ?_
    refine WK.seq ?_
    refine WK.sr mixed ?_
    refine GX.m rfl ?_
    refine GX.done ?_
    refine WK.len (t := 0) rfl (by simp) (fun hln0_8 => ?_)
    rw [List.length_map] at hln0_8
    generalize hZ_8 : F52_crossroadsref12_ReadRouter_l1 200 = Z_8 at hR
    refine WK.forK (fun k s => ∃ (_ : Unit), F52_crossroadsref12_ReadRouter_l1 k = Z_8 ∧ s = ⟨[(0, .ro 1 (b0.map c_u8)), (2, .ptr 0 0), (4, .int .i64 (IntKind.i64.wrap ((IntKind.i64.wrap (256 * (IntKind.i64.wrap x901))) + (IntKind.i64.wrap x902)))), (5, .ptr 1 0), (6, .bool false), (7, .int .i64 0)], [(0, .box [.int .i64 0, .nils]), (1, .box [.int .i64 (IntKind.i64.wrap x904), .nils])], 2⟩) 200 ⟨⟨[(0, .ro 1 (b0.map c_u8)), (2, .ptr 0 0), (4, .int .i64 (IntKind.i64.wrap ((IntKind.i64.wrap (256 * (IntKind.i64.wrap x901))) + (IntKind.i64.wrap x902)))), (5, .ptr 1 0), (6, .bool false), (7, .int .i64 0)], [(0, .box [.int .i64 0, .nils]), (1, .box [.int .i64 (IntKind.i64.wrap x904), .nils])], 2⟩, Conv.keep [0, 1] [] [0, 2, 4, 5, 6, 7] rfl rfl (viewE_cons rfl rfl (viewE_cons rfl rfl (viewE_cons rfl rfl (viewE_cons rfl rfl (viewE_cons rfl rfl (viewE_cons rfl rfl viewE_nil)))))) rfl rfl, (), hZ_8, rfl⟩ ?_
    rintro k8 _ ⟨_, hL_8, rfl⟩ again_8 out_8 Q_8 hagain_8 hout_8 hQ_8
    rcases k8 with _ | f8
    ·unfold F52_crossroadsref12_ReadRouter_l1 at hL_8
     try dsimp only at hL_8
     subst hL_8
     try dsimp only at hR
     cases hR
    unfold F52_crossroadsref12_ReadRouter_l1 at hL_8; try dsimp only at hL_8
    refine WK.seq ?_
    refine WK.sr mixed ?_
    iterate 2 refine GX.m rfl ?_
    iterate 3 refine GX.skip rfl rfl ?_
    refine GX.q (.bool false) ?_
    refine GX.done ?_
    refine WK.condF rfl ?_
    refine WK.exit ?_
    refine QF.exit (hout_8 _ ?_)
    subst hL_8
    try dsimp only [cond_true, cond_false] at hR
    refine WK.seq ?_
    refine WK.sr mixed ?_
    refine GX.m rfl ?_
    refine GX.q (.bool true) ?_
    refine GX.m rfl ?_
    iterate 3 refine GX.skip rfl rfl ?_
    refine GX.q (.bool true) ?_
    refine GX.done ?_
    refine WK.condT rfl ?_
    refine WK.sr mixed ?_
    refine GX.q (.agg [.int .i64 0, .nils]) ?_
    refine GX.step0 (heap' := [(0, .box [.int .i64 0, .nils]), (1, .box [.int .i64 (IntKind.i64.wrap x904), .nils])]) (next' := 2) rfl rfl rfl rfl rfl ?_
    refine GX.m rfl ?_
    refine GX.done ?_
    refine WK.ret ?_
    obtain rfl := Option.some.inj hR
    exact RetQ.frw [] (.inr rfl) rfl rfl rfl (.tup (.cons (.agg (.cons .refl (.cons .nil .refl))) .refl))
   ·rw [hb7]; first | replace hR := cond_t hb7 hR | (try simp only [hb7, bb] at hR)
    refine GX.m rfl ?_
    refine GX.pure (v' := .int .i64 (b0.length : Int)) rfl rfl rfl rfl (len_map _ _) ?_
    refine GX.m rfl ?_
    refine GX.q (.int .i64 (IntKind.i64.wrap (12 * (IntKind.i64.wrap ((IntKind.i64.wrap (256 * (IntKind.i64.wrap x901))) + (IntKind.i64.wrap x902)))))) ?_
    refine GX.q (.int .i64 (IntKind.i64.wrap (4 + (IntKind.i64.wrap (12 * (IntKind.i64.wrap ((IntKind.i64.wrap (256 * (IntKind.i64.wrap x901))) + (IntKind.i64.wrap x902)))))))) ?_
    iterate 2 refine GX.q (.bool (decide ((b0.length : Int) = IntKind.i64.wrap (4 + (IntKind.i64.wrap (12 * (IntKind.i64.wrap ((IntKind.i64.wrap (256 * (IntKind.i64.wrap x901))) + (IntKind.i64.wrap x902))))))))) ?_
    refine GX.m rfl ?_
    rcases bool_two (decide ((b0.length : Int) = IntKind.i64.wrap (4 + (IntKind.i64.wrap (12 * (IntKind.i64.wrap ((IntKind.i64.wrap (256 * (IntKind.i64.wrap x901))) + (IntKind.i64.wrap x902)))))))) with hb9 | hb9
    ·rw [hb9]; first | replace hR := cond_f hb9 hR | (try simp only [hb9, bb] at hR)
     iterate 2 refine GX.skip rfl rfl ?_
     refine GX.q (.bool false) ?_
     refine GX.m rfl ?_
     refine GX.done ?_
     refine WK.seq ?_
     refine WK.sr mixed ?_
     refine GX.m rfl ?_
     refine GX.done ?_
     refine WK.len (t := 0) rfl (by simp) (fun hln0_10 => ?_)
     rw [List.length_map] at hln0_10
     generalize hZ_10 : F52_crossroadsref12_ReadRouter_l1 200 = Z_10 at hR
     refine WK.forK (fun k s => ∃ (_ : Unit), F52_crossroadsref12_ReadRouter_l1 k = Z_10 ∧ s = ⟨[(0, .ro 1 (b0.map c_u8)), (2, .ptr 0 0), (4, .int .i64 (IntKind.i64.wrap ((IntKind.i64.wrap (256 * (IntKind.i64.wrap x901))) + (IntKind.i64.wrap x902)))), (5, .ptr 1 0), (6, .bool false), (7, .int .i64 0)], [(0, .box [.int .i64 0, .nils]), (1, .box [.int .i64 (IntKind.i64.wrap x904), .nils])], 2⟩) 200 ⟨⟨[(0, .ro 1 (b0.map c_u8)), (2, .ptr 0 0), (4, .int .i64 (IntKind.i64.wrap ((IntKind.i64.wrap (256 * (IntKind.i64.wrap x901))) + (IntKind.i64.wrap x902)))), (5, .ptr 1 0), (6, .bool false), (7, .int .i64 0)], [(0, .box [.int .i64 0, .nils]), (1, .box [.int .i64 (IntKind.i64.wrap x904), .nils])], 2⟩, Conv.keep [0, 1] [] [0, 2, 4, 5, 6, 7] rfl rfl (viewE_cons rfl rfl (viewE_cons rfl rfl (viewE_cons rfl rfl (viewE_cons rfl rfl (viewE_cons rfl rfl (viewE_cons rfl rfl viewE_nil)))))) rfl rfl, (), hZ_10, rfl⟩ ?_
     rintro k10 _ ⟨_, hL_10, rfl⟩ again_10 out_10 Q_10 hagain_10 hout_10 hQ_10
     rcases k10 with _ | f10
     ·unfold F52_crossroadsref12_ReadRouter_l1 at hL_10
      try dsimp only at hL_10
      subst hL_10
      try dsimp only at hR
      cases hR
     unfold F52_crossroadsref12_ReadRouter_l1 at hL_10; try dsimp only at hL_10
     refine WK.seq ?_
     refine WK.sr mixed ?_
     iterate 2 refine GX.m rfl ?_
     iterate 3 refine GX.skip rfl rfl ?_
     refine GX.q (.bool false) ?_
     refine GX.done ?_
     refine WK.condF rfl ?_
     refine WK.exit ?_
     refine QF.exit (hout_10 _ ?_)
     subst hL_10
     try dsimp only [cond_true, cond_false] at hR
     refine WK.seq ?_
     refine WK.sr mixed ?_
     refine GX.m rfl ?_
     refine GX.q (.bool true) ?_
     refine GX.m rfl ?_
     iterate 3 refine GX.skip rfl rfl ?_
     refine GX.q (.bool true) ?_
     refine GX.done ?_
     refine WK.condT rfl ?_
     refine WK.sr mixed ?_
     refine GX.q (.agg [.int .i64 0, .nils]) ?_
     refine GX.step0 (heap' := [(0, .box [.int .i64 0, .nils]), (1, .box [.int .i64 (IntKind.i64.wrap x904), .nils])]) (next' := 2) rfl rfl rfl rfl rfl ?_
     refine GX.m rfl ?_
     refine GX.done ?_
     refine WK.ret ?_
     obtain rfl := Option.some.inj hR
     exact RetQ.frw [] (.inr rfl) rfl rfl rfl (.tup (.cons (.agg (.cons .refl (.cons .nil .refl))) .refl))
    ·rw [hb9]; first | replace hR := cond_t hb9 hR | (try simp only [hb9, bb] at hR)
     refine GX.m rfl ?_
     iterate 2 refine GX.q (.bool (decide (IntKind.i64.wrap ((IntKind.i64.wrap (256 * (IntKind.i64.wrap x901))) + (IntKind.i64.wrap x902)) ≤ 100))) ?_
     refine GX.m rfl ?_
     refine GX.done ?_
     refine WK.seq ?_
     refine WK.sr mixed ?_
     refine GX.m rfl ?_
     refine GX.done ?_
     refine WK.adoptB (id := 1) (j := 1) (sz := 4) (ty := 136) (heap' := [(0, .box [.int .i64 0, .nils]), (1, .box [.int .i64 (IntKind.i64.wrap x904), .own 2 4 0 (([] : List TLink)).length]), (2, .row 4 136 (([] : List TLink).map TLink.c))]) rfl rfl (by decide) (by simp) rfl ?_
     refine WK.len (t := 0) rfl (by simp) (fun hln0_31 => ?_)
     rw [List.length_map] at hln0_31
     generalize hZ_31 : F52_crossroadsref12_ReadRouter_l2 b0 x901 x902 200 (decide (IntKind.i64.wrap ((IntKind.i64.wrap (256 * (IntKind.i64.wrap x901))) + (IntKind.i64.wrap x902)) ≤ 100)) 0 ([] : List TLink) = Z_31 at hR
     refine WK.forK (fun k s => ∃ (ok6 : Bool) (i7 : Int) (row2 : List TLink), F52_crossroadsref12_ReadRouter_l2 b0 x901 x902 k ok6 i7 row2 = Z_31 ∧ s = ⟨[(0, .ro 1 (b0.map c_u8)), (2, .ptr 0 0), (4, .int .i64 (IntKind.i64.wrap ((IntKind.i64.wrap (256 * (IntKind.i64.wrap x901))) + (IntKind.i64.wrap x902)))), (5, .ptr 1 0), (6, .bool ok6), (7, .int .i64 i7)], [(0, .box [.int .i64 0, .nils]), (1, .box [.int .i64 (IntKind.i64.wrap x904), .own 2 4 0 row2.length]), (2, .row 4 136 (row2.map TLink.c))], 3⟩) 200 ⟨⟨[(0, .ro 1 (b0.map c_u8)), (2, .ptr 0 0), (4, .int .i64 (IntKind.i64.wrap ((IntKind.i64.wrap (256 * (IntKind.i64.wrap x901))) + (IntKind.i64.wrap x902)))), (5, .ptr 1 0), (6, .bool (decide (IntKind.i64.wrap ((IntKind.i64.wrap (256 * (IntKind.i64.wrap x901))) + (IntKind.i64.wrap x902)) ≤ 100))), (7, .int .i64 0)], [(0, .box [.int .i64 0, .nils]), (1, .box [.int .i64 (IntKind.i64.wrap x904), .own 2 4 0 ([] : List TLink).length]), (2, .row 4 136 (([] : List TLink).map TLink.c))], 3⟩, Conv.keep [0, 1, 2] [] [0, 2, 4, 5, 6, 7] rfl rfl (viewE_cons rfl rfl (viewE_cons rfl rfl (viewE_cons rfl rfl (viewE_cons rfl rfl (viewE_cons rfl rfl (viewE_cons rfl rfl viewE_nil)))))) rfl rfl, (decide (IntKind.i64.wrap ((IntKind.i64.wrap (256 * (IntKind.i64.wrap x901))) + (IntKind.i64.wrap x902)) ≤ 100)), 0, ([] : List TLink), hZ_31, rfl⟩ ?_
     rintro k31 _ ⟨ok6, i7, row2, hL_31, rfl⟩ again_31 out_31 Q_31 hagain_31 hout_31 hQ_31
     rcases k31 with _ | f31
     ·unfold F52_crossroadsref12_ReadRouter_l2 at hL_31
      try dsimp only at hL_31
      subst hL_31
      try dsimp only at hR
      cases hR
     unfold F52_crossroadsref12_ReadRouter_l2 at hL_31; try dsimp only at hL_31
     refine WK.seq ?_
     refine WK.sr mixed ?_
     iterate 2 refine GX.m rfl ?_
     rcases bool_two (ok6) with hb32 | hb32
     ·rw [hb32]; try simp only [hb32, bb] at hL_31
      iterate 3 refine GX.skip rfl rfl ?_
      refine GX.q (.bool false) ?_
      refine GX.done ?_
      refine WK.condF rfl ?_
      refine WK.exit ?_
      refine QF.exit (hout_31 _ ?_)
      subst hL_31
      try dsimp only [cond_true, cond_false] at hR
      refine WK.seq ?_
      refine WK.sr mixed ?_
      refine GX.m rfl ?_
      refine GX.q (.bool true) ?_
      refine GX.m rfl ?_
      iterate 3 refine GX.skip rfl rfl ?_
      refine GX.q (.bool true) ?_
      refine GX.done ?_
      refine WK.condT rfl ?_
      refine WK.sr mixed ?_
      refine GX.q (.agg [.int .i64 0, .nils]) ?_
      refine GX.step0 (heap' := [(0, .box [.int .i64 0, .nils]), (1, .box [.int .i64 (IntKind.i64.wrap x904), .own 2 4 0 row2.length]), (2, .row 4 136 (row2.map TLink.c))]) (next' := 3) rfl rfl rfl rfl rfl ?_
      refine GX.m rfl ?_
      refine GX.done ?_
      refine WK.ret ?_
      obtain rfl := Option.some.inj hR
      exact RetQ.frw [] (.inr rfl) rfl rfl rfl (.tup (.cons (.agg (.cons .refl (.cons .nil .refl))) .refl))
     ·rw [hb32]; try simp only [hb32, bb] at hL_31
      iterate 2 refine GX.m rfl ?_
      iterate 2 refine GX.q (.bool (decide (i7 < IntKind.i64.wrap ((IntKind.i64.wrap (256 * (IntKind.i64.wrap x901))) + (IntKind.i64.wrap x902))))) ?_
      refine GX.done ?_
      rcases bool_two (decide (i7 < IntKind.i64.wrap ((IntKind.i64.wrap (256 * (IntKind.i64.wrap x901))) + (IntKind.i64.wrap x902)))) with hb33 | hb33
      ·rw [hb33]; try simp only [hb33, bb] at hL_31
       refine WK.condF rfl ?_
       refine WK.exit ?_
       refine QF.exit (hout_31 _ ?_)
       subst hL_31
       try dsimp only [cond_true, cond_false] at hR
       refine WK.seq ?_
       refine WK.sr mixed ?_
       refine GX.m rfl ?_
       refine GX.q (.bool false) ?_
       refine GX.m rfl ?_
       refine GX.q (.agg [.int .i64 (IntKind.i64.wrap x904), .own 2 4 0 row2.length]) ?_
       generalize hc109 : F71_crossroadsref12_MayRouter (⟨IntKind.i64.wrap x904, row2⟩ : TRouterBody) = c109 at hR
       try dsimp only at hR
       refine GX.callbp (r := .bool c109) [2] rfl rfl rfl (viewGo_cons (viewP_agg (viewGo_cons rfl (viewGo_cons (view_rowT rfl rfl) viewGo_nil))) viewGo_nil) (f71_ok (⟨IntKind.i64.wrap x904, row2⟩ : TRouterBody) _ hc109) rfl rfl ?_
       iterate 2 refine GX.q (.bool (!c109)) ?_
       refine GX.done ?_
       rcases bool_two (c109) with hb34 | hb34
       ·rw [hb34]; first | replace hR := cond_f hb34 hR | (try simp only [hb34, bb] at hR)
        refine WK.condT rfl ?_
        refine WK.sr mixed ?_
        refine GX.q (.agg [.int .i64 0, .nils]) ?_
        refine GX.step0 (heap' := [(0, .box [.int .i64 0, .nils]), (1, .box [.int .i64 (IntKind.i64.wrap x904), .own 2 4 0 row2.length]), (2, .row 4 136 (row2.map TLink.c))]) (next' := 3) rfl rfl rfl rfl rfl ?_
        refine GX.m rfl ?_
        refine GX.done ?_
        refine WK.ret ?_
        obtain rfl := Option.some.inj hR
        exact RetQ.frw [] (.inr rfl) rfl rfl rfl (.tup (.cons (.agg (.cons .refl (.cons .nil .refl))) .refl))
       ·rw [hb34]; first | replace hR := cond_t hb34 hR | (try simp only [hb34, bb] at hR)
        refine WK.condF rfl ?_
        refine WK.skip ?_
        refine WK.sr mixed ?_
        refine GX.q (.agg [.int .i64 (IntKind.i64.wrap x904), .own 2 4 0 row2.length]) ?_
        refine GX.step0 (heap' := [(0, .box [.int .i64 (IntKind.i64.wrap x904), .own 2 4 0 row2.length]), (1, .box [.int .i64 (IntKind.i64.wrap x904), .own 2 4 0 row2.length]), (2, .row 4 136 (row2.map TLink.c))]) (next' := 3) rfl rfl rfl rfl rfl ?_
        refine GX.m rfl ?_
        refine GX.done ?_
        refine WK.ret ?_
        obtain rfl := Option.some.inj hR
        exact RetQ.fr [2] (.inr rfl) rfl rfl (viewGo_cons (viewP_agg (viewGo_cons rfl (viewGo_cons (view_rowT rfl rfl) viewGo_nil))) (viewGo_cons rfl viewGo_nil)) rfl
      ·rw [hb33]; try simp only [hb33, bb] at hL_31
       refine WK.condT rfl ?_
       refine WK.skip ?_
       refine WK.seq ?_
       refine WK.blockK (fun _ hK35 => ?_)
       refine WK.sr mixed ?_
       iterate 2 refine GX.m rfl ?_
       refine GX.q (.int .i64 (IntKind.i64.wrap (12 * i7))) ?_
       refine GX.q (.int .i64 (IntKind.i64.wrap (4 + (IntKind.i64.wrap (12 * i7))))) ?_
       refine GX.m rfl ?_
       refine GX.q (.int .i64 (IntKind.i64.wrap (12 * i7))) ?_
       refine GX.q (.int .i64 (IntKind.i64.wrap (16 + (IntKind.i64.wrap (12 * i7))))) ?_
       rcases bool_two (decide ((0 : Int) ≤ IntKind.i64.wrap (4 + (IntKind.i64.wrap (12 * i7))))) with hg36 | hg36
       ·simp only [hg36, bb] at hL_31
        try dsimp only at hL_31
        subst hL_31
        try dsimp only at hR
        cases hR
       simp only [hg36, bb] at hL_31
       have hg36_ := of_decide_eq_true hg36
       rcases bool_two (decide (IntKind.i64.wrap (4 + (IntKind.i64.wrap (12 * i7))) ≤ IntKind.i64.wrap (16 + (IntKind.i64.wrap (12 * i7))))) with hg37 | hg37
       ·simp only [hg37, bb] at hL_31
        try dsimp only at hL_31
        subst hL_31
        try dsimp only at hR
        cases hR
       simp only [hg37, bb] at hL_31
       have hg37_ := of_decide_eq_true hg37
       rcases bool_two (decide (IntKind.i64.wrap (16 + (IntKind.i64.wrap (12 * i7))) ≤ (b0.length : Int))) with hg38 | hg38
       ·simp only [hg38, bb] at hL_31
        try dsimp only at hL_31
        subst hL_31
        try dsimp only at hR
        cases hR
       simp only [hg38, bb] at hL_31
       have hg38_ := of_decide_eq_true hg38
       refine GX.sliceLH (c := c_u8) (M := ((b0.drop (IntKind.i64.wrap (4 + (IntKind.i64.wrap (12 * i7)))).toNat).take ((IntKind.i64.wrap (16 + (IntKind.i64.wrap (12 * i7)))).toNat - (IntKind.i64.wrap (4 + (IntKind.i64.wrap (12 * i7)))).toNat))) rfl rfl rfl (by omega) (by omega) (by omega) rfl ?_
       generalize hc70 : F70_crossroadsref01_Rows ((b0.drop (IntKind.i64.wrap (4 + (IntKind.i64.wrap (12 * i7)))).toNat).take ((IntKind.i64.wrap (16 + (IntKind.i64.wrap (12 * i7)))).toNat - (IntKind.i64.wrap (4 + (IntKind.i64.wrap (12 * i7)))).toNat)) 4 = c70 at hL_31
       rcases c70 with _ | c70
       ·try dsimp only at hL_31
        subst hL_31
        try dsimp only at hR
        cases hR
       try dsimp only at hL_31
       obtain ⟨c70a, c70b⟩ := c70; try dsimp only at hL_31
       refine GX.callp (r := .tup [.ro 1 (c70a.map c_u32), .int .i64 c70b]) rfl rfl rfl (f70_ok ((b0.drop (IntKind.i64.wrap (4 + (IntKind.i64.wrap (12 * i7)))).toNat).take ((IntKind.i64.wrap (16 + (IntKind.i64.wrap (12 * i7)))).toNat - (IntKind.i64.wrap (4 + (IntKind.i64.wrap (12 * i7)))).toNat)) 4 _ hc70) rfl rfl ?_
       refine GX.m rfl ?_
       refine GX.q (.ro 1 (c70a.map c_u32)) ?_
       refine GX.q (.int .i64 c70b) ?_
       iterate 2 refine GX.m rfl ?_
       refine GX.done ?_
       refine WK.seq ?_
       refine WK.drawn mixed ?_
       refine RD.m rfl ?_
       generalize hx938 : getI c70a 0 = x938 at hL_31
       rcases x938 with _ | x938
       ·try dsimp only at hL_31
        subst hL_31
        try dsimp only at hR
        cases hR
       try dsimp only at hL_31
       obtain ⟨hx9380, hx938j, hx938l, hx938⟩ := getI_some hx938
       refine RD.idxT (c := c_u32) (x := x938) rfl rfl rfl hx9380 hx938 ?_
       refine RD.q (.int .u32 x938) ?_
       refine RD.m rfl ?_
       generalize hx939 : getI c70a 1 = x939 at hL_31
       rcases x939 with _ | x939
       ·try dsimp only at hL_31
        subst hL_31
        try dsimp only at hR
        cases hR
       try dsimp only at hL_31
       obtain ⟨hx9390, hx939j, hx939l, hx939⟩ := getI_some hx939
       refine RD.idxT (c := c_u32) (x := x939) rfl rfl rfl hx9390 hx939 ?_
       refine RD.q (.int .u32 x939) ?_
       refine RD.m rfl ?_
       generalize hx940 : getI c70a 2 = x940 at hL_31
       rcases x940 with _ | x940
       ·try dsimp only at hL_31
        subst hL_31
        try dsimp only at hR
        cases hR
       try dsimp only at hL_31
       obtain ⟨hx9400, hx940j, hx940l, hx940⟩ := getI_some hx940
       refine RD.idxT (c := c_u32) (x := x940) rfl rfl rfl hx9400 hx940 ?_
       refine RD.q (.int .u32 x940) ?_
       refine RD.q (.int .u32 (IntKind.u32.wrap (Int.tdiv x940 16777216))) ?_
       refine RD.q (.int .i64 (IntKind.i64.wrap (IntKind.u32.wrap (Int.tdiv x940 16777216)))) ?_
       refine RD.m rfl ?_
       refine RD.idxT (c := c_u32) (x := x940) rfl rfl rfl hx9400 hx940 ?_
       refine RD.q (.int .u32 x940) ?_
       refine RD.q (.int .u32 (Int.tmod x940 65536)) ?_
       refine RD.q (.int .i64 (IntKind.i64.wrap (Int.tmod x940 65536))) ?_
       refine RD.q (.agg [.int .i64 (IntKind.i64.wrap (IntKind.u32.wrap (Int.tdiv x940 16777216))), .int .u32 x938, .int .u32 x939, .int .i64 (IntKind.i64.wrap (Int.tmod x940 65536))]) ?_
       refine RD.step (v' := .ptr 3 0) (heap' := [(0, .box [.int .i64 0, .nils]), (1, .box [.int .i64 (IntKind.i64.wrap x904), .own 2 4 0 row2.length]), (2, .row 4 136 (row2.map TLink.c)), (3, .box [.int .i64 0, .int .u32 0, .int .u32 0, .int .i64 0])]) (next' := 4) rfl rfl rfl rfl rfl rfl rfl ?_
       refine RD.step0 (heap' := [(0, .box [.int .i64 0, .nils]), (1, .box [.int .i64 (IntKind.i64.wrap x904), .own 2 4 0 row2.length]), (2, .row 4 136 (row2.map TLink.c)), (3, .box [.int .i64 (IntKind.i64.wrap (IntKind.u32.wrap (Int.tdiv x940 16777216))), .int .u32 x938, .int .u32 x939, .int .i64 (IntKind.i64.wrap (Int.tmod x940 65536))])]) (next' := 4) rfl rfl rfl rfl rfl ?_
       refine RD.done rfl ?_
       refine WK.sr mixed ?_
       iterate 3 refine GX.m rfl ?_
       refine GX.idxT (c := c_u32) (x := x940) rfl rfl rfl hx9400 hx940 ?_
       refine GX.q (.int .u32 x940) ?_
       refine GX.q (.int .u32 (IntKind.u32.wrap (Int.tdiv x940 65536))) ?_
       refine GX.q (.int .u32 (Int.tmod (IntKind.u32.wrap (Int.tdiv x940 65536)) 256)) ?_
       iterate 2 refine GX.q (.bool (decide ((Int.tmod (IntKind.u32.wrap (Int.tdiv x940 65536)) 256) = 0))) ?_
       refine GX.m rfl ?_
       refine GX.done ?_
       refine WK.regx mixed ?_
       refine GX.q (.ptr 1 1) ?_
       refine GX.q (.own 2 4 0 row2.length) ?_
       refine GX.q (.agg [.int .i64 (IntKind.i64.wrap (IntKind.u32.wrap (Int.tdiv x940 16777216))), .int .u32 x938, .int .u32 x939, .int .i64 (IntKind.i64.wrap (Int.tmod x940 65536))]) ?_
       refine GX.step (v' := .own 4 4 0 (([(⟨IntKind.i64.wrap (IntKind.u32.wrap (Int.tdiv x940 16777216)), x938, x939, IntKind.i64.wrap (Int.tmod x940 65536)⟩ : TLink)] : List TLink)).length) (heap' := [(0, .box [.int .i64 0, .nils]), (1, .box [.int .i64 (IntKind.i64.wrap x904), .own 2 4 0 row2.length]), (2, .row 4 136 (row2.map TLink.c)), (3, .box [.int .i64 (IntKind.i64.wrap (IntKind.u32.wrap (Int.tdiv x940 16777216))), .int .u32 x938, .int .u32 x939, .int .i64 (IntKind.i64.wrap (Int.tmod x940 65536))]), (4, .row 4 136 (([(⟨IntKind.i64.wrap (IntKind.u32.wrap (Int.tdiv x940 16777216)), x938, x939, IntKind.i64.wrap (Int.tmod x940 65536)⟩ : TLink)] : List TLink).map TLink.c))]) (next' := 5) rfl rfl rfl rfl rfl rfl rfl ?_
       rcases bool_two (decide (row2.length < 1099511627776)) with hg42 | hg42
       ·simp only [hg42, bb] at hL_31
        try dsimp only at hL_31
        subst hL_31
        try dsimp only at hR
        cases hR
       simp only [hg42, bb] at hL_31
       have hg42_ := of_decide_eq_true hg42
       refine GX.appT (c := TLink.c) (L := row2) (X := ([(⟨IntKind.i64.wrap (IntKind.u32.wrap (Int.tdiv x940 16777216)), x938, x939, IntKind.i64.wrap (Int.tmod x940 65536)⟩ : TLink)] : List TLink)) (heap' := [(0, .box [.int .i64 0, .nils]), (1, .box [.int .i64 (IntKind.i64.wrap x904), .own 2 4 0 row2.length]), (3, .box [.int .i64 (IntKind.i64.wrap (IntKind.u32.wrap (Int.tdiv x940 16777216))), .int .u32 x938, .int .u32 x939, .int .i64 (IntKind.i64.wrap (Int.tmod x940 65536))]), (4, .row 4 136 (([(⟨IntKind.i64.wrap (IntKind.u32.wrap (Int.tdiv x940 16777216)), x938, x939, IntKind.i64.wrap (Int.tmod x940 65536)⟩ : TLink)] : List TLink).map TLink.c)), (5, .row 4 136 ((row2 ++ ([(⟨IntKind.i64.wrap (IntKind.u32.wrap (Int.tdiv x940 16777216)), x938, x939, IntKind.i64.wrap (Int.tmod x940 65536)⟩ : TLink)] : List TLink)).map TLink.c))]) (next' := 6) rfl rfl rfl rfl (elems_own rfl) (by ((try simp only [List.length_append, List.length_cons, List.length_nil, List.length_map, decide_eq_true_eq, decide_eq_false_iff_not] at *) <;> omega)) (by ((try simp only [List.length_append, List.length_cons, List.length_nil, List.length_map, decide_eq_true_eq, decide_eq_false_iff_not] at *) <;> omega)) rfl rfl rfl rfl ?_
       refine GX.q (.ptr 1 1) ?_
       refine GX.step0 (heap' := [(0, .box [.int .i64 0, .nils]), (1, .box [.int .i64 (IntKind.i64.wrap x904), .own 5 4 0 (row2 ++ ([(⟨IntKind.i64.wrap (IntKind.u32.wrap (Int.tdiv x940 16777216)), x938, x939, IntKind.i64.wrap (Int.tmod x940 65536)⟩ : TLink)] : List TLink)).length]), (3, .box [.int .i64 (IntKind.i64.wrap (IntKind.u32.wrap (Int.tdiv x940 16777216))), .int .u32 x938, .int .u32 x939, .int .i64 (IntKind.i64.wrap (Int.tmod x940 65536))]), (4, .row 4 136 (([(⟨IntKind.i64.wrap (IntKind.u32.wrap (Int.tdiv x940 16777216)), x938, x939, IntKind.i64.wrap (Int.tmod x940 65536)⟩ : TLink)] : List TLink).map TLink.c)), (5, .row 4 136 ((row2 ++ ([(⟨IntKind.i64.wrap (IntKind.u32.wrap (Int.tdiv x940 16777216)), x938, x939, IntKind.i64.wrap (Int.tmod x940 65536)⟩ : TLink)] : List TLink)).map TLink.c))]) (next' := 6) rfl rfl rfl rfl rfl ?_
       refine GX.done ?_
       refine WK.nil (QF.normal (hK35 _ ?_))
       refine WK.regx mixed ?_
       refine GX.m rfl ?_
       refine GX.q (.int .i64 (IntKind.i64.wrap (i7 + 1))) ?_
       refine GX.m rfl ?_
       refine GX.done ?_
       refine WK.nil (QF.normal ?_)
       exact hagain_31 _ f31 ⟨[(0, .ro 1 (b0.map c_u8)), (2, .ptr 0 0), (4, .int .i64 (IntKind.i64.wrap ((IntKind.i64.wrap (256 * (IntKind.i64.wrap x901))) + (IntKind.i64.wrap x902)))), (5, .ptr 1 0), (6, .bool (decide ((Int.tmod (IntKind.u32.wrap (Int.tdiv x940 65536)) 256) = 0))), (7, .int .i64 (IntKind.i64.wrap (i7 + 1)))], [(0, .box [.int .i64 0, .nils]), (1, .box [.int .i64 (IntKind.i64.wrap x904), .own 2 4 0 (row2 ++ ([(⟨IntKind.i64.wrap (IntKind.u32.wrap (Int.tdiv x940 16777216)), x938, x939, IntKind.i64.wrap (Int.tmod x940 65536)⟩ : TLink)] : List TLink)).length]), (2, .row 4 136 ((row2 ++ ([(⟨IntKind.i64.wrap (IntKind.u32.wrap (Int.tdiv x940 16777216)), x938, x939, IntKind.i64.wrap (Int.tmod x940 65536)⟩ : TLink)] : List TLink)).map TLink.c))], 3⟩ (Nat.lt_succ_self _) (Conv.keep [0, 1, 5] [] [0, 2, 4, 5, 6, 7] rfl rfl (viewE_cons rfl rfl (viewE_cons rfl rfl (viewE_cons rfl rfl (viewE_cons rfl rfl (viewE_cons rfl rfl (viewE_cons rfl rfl viewE_nil)))))) rfl rfl) ⟨(decide ((Int.tmod (IntKind.u32.wrap (Int.tdiv x940 65536)) 256) = 0)), (IntKind.i64.wrap (i7 + 1)), (row2 ++ ([(⟨IntKind.i64.wrap (IntKind.u32.wrap (Int.tdiv x940 16777216)), x938, x939, IntKind.i64.wrap (Int.tmod x940 65536)⟩ : TLink)] : List TLink)), hL_31, rfl⟩
  ·rw [hb4]; first | replace hR := cond_t hb4 hR | (try simp only [hb4, bb] at hR)
   refine WK.condT rfl ?_
   refine WK.sr mixed ?_
   refine GX.q (.agg [.int .i64 0, .nils]) ?_
   refine GX.step0 (heap' := [(0, .box [.int .i64 0, .nils])]) (next' := 1) rfl rfl rfl rfl rfl ?_
   refine GX.m rfl ?_
   refine GX.done ?_
   refine WK.ret ?_
   obtain rfl := Option.some.inj hR
   exact RetQ.frw [] (.inr rfl) rfl rfl rfl (.tup (.cons (.agg (.cons .refl (.cons .nil .refl))) .refl))
 ·rw [hb1]; first | replace hR := cond_t hb1 hR | (try simp only [hb1, bb] at hR)
  refine WK.condT rfl ?_
  refine WK.sr mixed ?_
  refine GX.q (.agg [.int .i64 0, .nils]) ?_
  refine GX.step0 (heap' := [(0, .box [.int .i64 0, .nils])]) (next' := 1) rfl rfl rfl rfl rfl ?_
  refine GX.m rfl ?_
  refine GX.done ?_
  refine WK.ret ?_
  obtain rfl := Option.some.inj hR
  exact RetQ.frw [] (.inr rfl) rfl rfl rfl (.tup (.cons (.agg (.cons .refl (.cons .nil .refl))) .refl))

theorem f84_ok (n0 : Int) (R : Int) (hR : F84_crossroadsref03_Mask n0 = R) : FnOk Try.prog 84 [.int .i64 n0] [] 0 (.int .u32 R) [] 0 := by
 refine FnOk.wk i84 rfl rfl ?_
 unfold F84_crossroadsref03_Mask at hR
 change WK _ _ _ [ac84] _ ⟨[(0, .int .i64 n0)], [], 0⟩
 unfold ac84
 refine WK.sr mixed ?_
 refine GX.m rfl ?_
 refine GX.done ?_
 refine WK.sr mixed ?_
 refine GX.m rfl ?_
 refine GX.done ?_
 refine WK.seq ?_
 refine WK.sr mixed ?_
 refine GX.m rfl ?_
 refine GX.done ?_
 generalize hZ_8 : F84_crossroadsref03_Mask_l1 n0 ((32 - (0 : Int)).toNat + 1) 0 0 = Z_8 at hR
 refine WK.forK (fun k s => ∃ (m3 : Int) (i4 : Int), (32 - (i4 : Int)).toNat < k ∧ 0 ≤ i4 ∧ i4 ≤ 32 ∧ F84_crossroadsref03_Mask_l1 n0 k m3 i4 = Z_8 ∧ s = ⟨[(0, .int .i64 n0), (3, .int .u32 m3), (4, .int .i64 i4)], [], 0⟩) ((32 - (0 : Int)).toNat + 1) ⟨⟨[(0, .int .i64 n0), (3, .int .u32 0), (4, .int .i64 0)], [], 0⟩, Conv.keep [] [] [0, 3, 4] rfl rfl (viewE_cons rfl rfl (viewE_cons rfl rfl (viewE_cons rfl rfl viewE_nil))) rfl rfl, 0, 0, Nat.lt_succ_self _, (by omega), (by omega), hZ_8, rfl⟩ ?_
 rintro k8 _ ⟨m3, i4, hfu8, hinv8_w0, hinv8_w1, hL_8, rfl⟩ again_8 out_8 Q_8 hagain_8 hout_8 hQ_8
 obtain ⟨f8, rfl⟩ : ∃ f, k8 = f + 1 := ⟨k8 - 1, by omega⟩
 unfold F84_crossroadsref03_Mask_l1 at hL_8; try dsimp only at hL_8
 refine WK.seq ?_
 refine WK.sr mixed ?_
 refine GX.m rfl ?_
 refine GX.q (.bool (decide (i4 < 32))) ?_
 refine GX.done ?_
 rcases bool_two (decide (i4 < 32)) with hb9 | hb9
 ·rw [hb9]; try simp only [hb9, bb] at hL_8
  refine WK.condF rfl ?_
  refine WK.exit ?_
  refine QF.exit (hout_8 _ ?_)
  subst hL_8
  try dsimp only [cond_true, cond_false] at hR
  refine WK.sr mixed ?_
  iterate 2 refine GX.m rfl ?_
  refine GX.done ?_
  refine WK.ret ?_
  subst hR
  exact RetQ.fr [] (.inr rfl) rfl rfl rfl rfl
 ·rw [hb9]; try simp only [hb9, bb] at hL_8
  refine WK.condT rfl ?_
  refine WK.skip ?_
  refine WK.seq ?_
  refine WK.blockK (fun _ hK10 => ?_)
  refine WK.sr mixed ?_
  refine GX.m rfl ?_
  refine GX.q (.int .u32 (IntKind.u32.wrap (m3 * 2))) ?_
  refine GX.m rfl ?_
  refine GX.done ?_
  refine WK.sr mixed ?_
  iterate 2 refine GX.m rfl ?_
  refine GX.q (.bool (decide (i4 < n0))) ?_
  refine GX.done ?_
  rcases bool_two (decide (i4 < n0)) with hb11 | hb11
  ·rw [hb11]; try simp only [hb11, bb] at hL_8
   refine WK.condF rfl ?_
   refine WK.skip ?_
   refine WK.nil (QF.normal (hK10 _ ?_))
   refine WK.regx mixed ?_
   refine GX.m rfl ?_
   refine GX.q (.int .i64 (IntKind.i64.wrap (i4 + 1))) ?_
   refine GX.m rfl ?_
   refine GX.done ?_
   refine WK.nil (QF.normal ?_)
   exact hagain_8 _ f8 ⟨[(0, .int .i64 n0), (3, .int .u32 (IntKind.u32.wrap (m3 * 2))), (4, .int .i64 (IntKind.i64.wrap (i4 + 1)))], [], 0⟩ (Nat.lt_succ_self _) (Conv.keep [] [] [0, 3, 4] rfl rfl (viewE_cons rfl rfl (viewE_cons rfl rfl (viewE_cons rfl rfl viewE_nil))) rfl rfl) ⟨(IntKind.u32.wrap (m3 * 2)), (IntKind.i64.wrap (i4 + 1)), (by ((try simp only [decide_eq_true_eq, decide_eq_false_iff_not] at *); rw [wrap64_of (by omega) (by omega)]; omega)), (by ((try simp only [decide_eq_true_eq, decide_eq_false_iff_not] at *); rw [wrap64_of (by omega) (by omega)]; omega)), (by ((try simp only [decide_eq_true_eq, decide_eq_false_iff_not] at *); rw [wrap64_of (by omega) (by omega)]; omega)), hL_8, rfl⟩
  ·rw [hb11]; try simp only [hb11, bb] at hL_8
   refine WK.condT rfl ?_
   refine WK.regx mixed ?_
   refine GX.m rfl ?_
   refine GX.q (.int .u32 (IntKind.u32.wrap ((IntKind.u32.wrap (m3 * 2)) + 1))) ?_
   refine GX.m rfl ?_
   refine GX.done ?_
   refine WK.nil (QF.normal (hK10 _ ?_))
   refine WK.regx mixed ?_
   refine GX.m rfl ?_
   refine GX.q (.int .i64 (IntKind.i64.wrap (i4 + 1))) ?_
   refine GX.m rfl ?_
   refine GX.done ?_
   refine WK.nil (QF.normal ?_)
   exact hagain_8 _ f8 ⟨[(0, .int .i64 n0), (3, .int .u32 (IntKind.u32.wrap ((IntKind.u32.wrap (m3 * 2)) + 1))), (4, .int .i64 (IntKind.i64.wrap (i4 + 1)))], [], 0⟩ (Nat.lt_succ_self _) (Conv.keep [] [] [0, 3, 4] rfl rfl (viewE_cons rfl rfl (viewE_cons rfl rfl (viewE_cons rfl rfl viewE_nil))) rfl rfl) ⟨(IntKind.u32.wrap ((IntKind.u32.wrap (m3 * 2)) + 1)), (IntKind.i64.wrap (i4 + 1)), (by ((try simp only [decide_eq_true_eq, decide_eq_false_iff_not] at *); rw [wrap64_of (by omega) (by omega)]; omega)), (by ((try simp only [decide_eq_true_eq, decide_eq_false_iff_not] at *); rw [wrap64_of (by omega) (by omega)]; omega)), (by ((try simp only [decide_eq_true_eq, decide_eq_false_iff_not] at *); rw [wrap64_of (by omega) (by omega)]; omega)), hL_8, rfl⟩

theorem f81_ok (mask0 : Int) (R : Int × Int) (hR : F81_crossroadsref03_Long mask0 = R) : FnOk Try.prog 81 [.int .u32 mask0] [] 0 (.tup [.int .i64 R.1, .int .i64 R.2]) [] 0 := by
 refine FnOk.wk i81 rfl rfl ?_
 unfold F81_crossroadsref03_Long at hR
 change WK _ _ _ [ac81] _ ⟨[(0, .int .u32 mask0)], [], 0⟩
 unfold ac81
 refine WK.sr mixed ?_
 iterate 2 refine GX.m rfl ?_
 refine GX.done ?_
 refine WK.seq ?_
 refine WK.sr mixed ?_
 refine GX.m rfl ?_
 refine GX.done ?_
 generalize hZ_4 : F81_crossroadsref03_Long_l1 mask0 ((33 - (0 : Int)).toNat + 1) 0 = Z_4 at hR
 refine WK.forK (fun k s => ∃ (n4 : Int), (33 - (n4 : Int)).toNat < k ∧ 0 ≤ n4 ∧ n4 ≤ 33 ∧ F81_crossroadsref03_Long_l1 mask0 k n4 = Z_4 ∧ s = ⟨[(0, .int .u32 mask0), (4, .int .i64 n4)], [], 0⟩) ((33 - (0 : Int)).toNat + 1) ⟨⟨[(0, .int .u32 mask0), (4, .int .i64 0)], [], 0⟩, Conv.keep [] [] [0, 4] rfl rfl (viewE_cons rfl rfl (viewE_cons rfl rfl viewE_nil)) rfl rfl, 0, Nat.lt_succ_self _, (by omega), (by omega), hZ_4, rfl⟩ ?_
 rintro k4 _ ⟨n4, hfu4, hinv4_w0, hinv4_w1, hL_4, rfl⟩ again_4 out_4 Q_4 hagain_4 hout_4 hQ_4
 obtain ⟨f4, rfl⟩ : ∃ f, k4 = f + 1 := ⟨k4 - 1, by omega⟩
 unfold F81_crossroadsref03_Long_l1 at hL_4; try dsimp only at hL_4
 refine WK.seq ?_
 refine WK.sr mixed ?_
 refine GX.m rfl ?_
 refine GX.q (.bool (decide (n4 ≤ 32))) ?_
 refine GX.done ?_
 rcases bool_two (decide (n4 ≤ 32)) with hb5 | hb5
 ·rw [hb5]; try simp only [hb5, bb] at hL_4
  refine WK.condF rfl ?_
  refine WK.exit ?_
  refine QF.exit (hout_4 _ ?_)
  subst hL_4
  try dsimp only [cond_true, cond_false] at hR
  refine WK.sr mixed ?_
  iterate 2 refine GX.m rfl ?_
  refine GX.done ?_
  refine WK.ret ?_
  subst hR
  exact RetQ.fr [] (.inr rfl) rfl rfl rfl rfl
 ·rw [hb5]; try simp only [hb5, bb] at hL_4
  refine WK.condT rfl ?_
  refine WK.skip ?_
  refine WK.seq ?_
  refine WK.blockK (fun _ hK6 => ?_)
  refine WK.sr mixed ?_
  refine GX.m rfl ?_
  generalize hc10 : F84_crossroadsref03_Mask n4 = c10 at hL_4
  try dsimp only at hL_4
  refine GX.callp (r := .int .u32 c10) rfl rfl rfl (f84_ok n4 _ hc10) rfl rfl ?_
  refine GX.m rfl ?_
  refine GX.q (.bool (decide (c10 = mask0))) ?_
  refine GX.done ?_
  rcases bool_two (decide (c10 = mask0)) with hb7 | hb7
  ·rw [hb7]; try simp only [hb7, bb] at hL_4
   refine WK.condF rfl ?_
   refine WK.skip ?_
   refine WK.nil (QF.normal (hK6 _ ?_))
   refine WK.regx mixed ?_
   refine GX.m rfl ?_
   refine GX.q (.int .i64 (IntKind.i64.wrap (n4 + 1))) ?_
   refine GX.m rfl ?_
   refine GX.done ?_
   refine WK.nil (QF.normal ?_)
   exact hagain_4 _ f4 ⟨[(0, .int .u32 mask0), (4, .int .i64 (IntKind.i64.wrap (n4 + 1)))], [], 0⟩ (Nat.lt_succ_self _) (Conv.keep [] [] [0, 4] rfl rfl (viewE_cons rfl rfl (viewE_cons rfl rfl viewE_nil)) rfl rfl) ⟨(IntKind.i64.wrap (n4 + 1)), (by ((try simp only [decide_eq_true_eq, decide_eq_false_iff_not] at *); rw [wrap64_of (by omega) (by omega)]; omega)), (by ((try simp only [decide_eq_true_eq, decide_eq_false_iff_not] at *); rw [wrap64_of (by omega) (by omega)]; omega)), (by ((try simp only [decide_eq_true_eq, decide_eq_false_iff_not] at *); rw [wrap64_of (by omega) (by omega)]; omega)), hL_4, rfl⟩
  ·rw [hb7]; try simp only [hb7, bb] at hL_4
   refine WK.condT rfl ?_
   refine WK.sr mixed ?_
   iterate 3 refine GX.m rfl ?_
   refine GX.done ?_
   refine WK.ret ?_
   refine QF.ret ?_
   refine QF.ret (hQ_4 _ _ ?_)
   subst hL_4
   subst hR
   exact RetQ.fr [] (.inr rfl) rfl rfl rfl rfl

theorem f72_ok (m0 : Int) (R : Bool) (hR : F72_crossroadsref12_isMask m0 = R) : FnOk Try.prog 72 [.int .u32 m0] [] 0 (.bool R) [] 0 := by
 refine FnOk.wk i72 rfl rfl ?_
 unfold F72_crossroadsref12_isMask at hR
 change WK _ _ _ [ac72] _ ⟨[(0, .int .u32 m0)], [], 0⟩
 unfold ac72
 refine WK.sr mixed ?_
 refine GX.m rfl ?_
 refine GX.done ?_
 refine WK.sr mixed ?_
 refine GX.m rfl ?_
 generalize hc7 : F81_crossroadsref03_Long m0 = c7 at hR
 obtain ⟨c7a, c7b⟩ := c7; try dsimp only at hR
 refine GX.callp (r := .tup [.int .i64 c7a, .int .i64 c7b]) rfl rfl rfl (f81_ok m0 _ hc7) rfl rfl ?_
 refine GX.m rfl ?_
 refine GX.q (.int .i64 c7a) ?_
 refine GX.q (.int .i64 c7b) ?_
 iterate 2 refine GX.m rfl ?_
 refine GX.done ?_
 refine WK.sr mixed ?_
 refine GX.m rfl ?_
 refine GX.q (.bool (decide (c7b = 0))) ?_
 refine GX.m rfl ?_
 refine GX.done ?_
 refine WK.ret ?_
 subst hR
 exact RetQ.fr [] (.inr rfl) rfl rfl rfl rfl

theorem f53_ok (b0 : List Int) (R : TNetworkBody × Int) (hR : F53_crossroadsref12_ReadNetwork b0 = some R) : FnOk Try.prog 53 [.ro 1 (b0.map c_u8)] [] 0 (.tup [.agg (TNetworkBody.c R.1), .int .i64 R.2]) [] 0 := by
 refine FnOk.wk i53 rfl rfl ?_
 unfold F53_crossroadsref12_ReadNetwork at hR
 try dsimp only at hR
 change WK _ _ _ [ac53] _ ⟨[(0, .ro 1 (b0.map c_u8))], [], 0⟩
 unfold ac53
 refine WK.sr mixed ?_
 refine GX.step (v' := .ptr 0 0) (heap' := [(0, .box [.int .u32 0, .nils])]) (next' := 1) rfl rfl rfl rfl rfl rfl rfl ?_
 refine GX.m rfl ?_
 refine GX.done ?_
 refine WK.sr mixed ?_
 refine GX.m rfl ?_
 generalize hc8 : F70_crossroadsref01_Rows b0 4 = c8 at hR
 rcases c8 with _ | c8
 ·try dsimp only at hR
  cases hR
 try dsimp only at hR
 obtain ⟨c8a, c8b⟩ := c8; try dsimp only at hR
 refine GX.callp (r := .tup [.ro 1 (c8a.map c_u32), .int .i64 c8b]) rfl rfl rfl (f70_ok b0 4 _ hc8) rfl rfl ?_
 refine GX.m rfl ?_
 refine GX.q (.ro 1 (c8a.map c_u32)) ?_
 refine GX.q (.int .i64 c8b) ?_
 iterate 2 refine GX.m rfl ?_
 refine GX.done ?_
 refine WK.seq ?_
 refine WK.sr mixed ?_
 refine GX.m rfl ?_
 refine GX.q (.bool (!decide (c8b = 0))) ?_
 refine GX.m rfl ?_
 rcases bool_two (decide (c8b = 0)) with hb1 | hb1
 ·rw [hb1]; first | replace hR := cond_f hb1 hR | (try simp only [hb1, bb] at hR)
  iterate 3 refine GX.skip rfl rfl ?_
  refine GX.q (.bool true) ?_
  refine GX.done ?_
  refine WK.condT rfl ?_
  refine WK.sr mixed ?_
  refine GX.q (.agg [.int .u32 0, .nils]) ?_
  refine GX.step0 (heap' := [(0, .box [.int .u32 0, .nils])]) (next' := 1) rfl rfl rfl rfl rfl ?_
  refine GX.m rfl ?_
  refine GX.done ?_
  refine WK.ret ?_
  obtain rfl := Option.some.inj hR
  exact RetQ.frw [] (.inr rfl) rfl rfl rfl (.tup (.cons (.agg (.cons .refl (.cons .nil .refl))) .refl))
 ·rw [hb1]; first | replace hR := cond_t hb1 hR | (try simp only [hb1, bb] at hR)
  refine GX.m rfl ?_
  refine GX.pure (v' := .int .i64 (c8a.length : Int)) rfl rfl rfl rfl (len_map _ _) ?_
  iterate 2 refine GX.q (.bool (decide ((c8a.length : Int) < 2))) ?_
  refine GX.done ?_
  rcases bool_two (decide ((c8a.length : Int) < 2)) with hb2 | hb2
  ·rw [hb2]; first | replace hR := cond_f hb2 hR | (try simp only [hb2, bb] at hR)
   refine WK.condF rfl ?_
   refine WK.skip ?_
   refine WK.seq ?_
   refine WK.sr mixed ?_
   refine GX.m rfl ?_
   generalize hx902 : getI c8a 0 = x902 at hR
   rcases x902 with _ | x902
   ·try dsimp only at hR
    cases hR
   try dsimp only at hR
   obtain ⟨hx9020, hx902j, hx902l, hx902⟩ := getI_some hx902
   refine GX.idxT (c := c_u32) (x := x902) rfl rfl rfl hx9020 hx902 ?_
   refine GX.q (.int .u32 x902) ?_
   generalize hc22 : F72_crossroadsref12_isMask x902 = c22 at hR
   try dsimp only at hR
   refine GX.callp (r := .bool c22) rfl rfl rfl (f72_ok x902 _ hc22) rfl rfl ?_
   refine GX.q (.bool (!c22)) ?_
   refine GX.m rfl ?_
   rcases bool_two (c22) with hb4 | hb4
   ·rw [hb4]; first | replace hR := cond_f hb4 hR | (try simp only [hb4, bb] at hR)
    iterate 3 refine GX.skip rfl rfl ?_
    refine GX.q (.bool true) ?_
    refine GX.done ?_
    refine WK.condT rfl ?_
    refine WK.sr mixed ?_
    refine GX.q (.agg [.int .u32 0, .nils]) ?_
    refine GX.step0 (heap' := [(0, .box [.int .u32 0, .nils])]) (next' := 1) rfl rfl rfl rfl rfl ?_
    refine GX.m rfl ?_
    refine GX.done ?_
    refine WK.ret ?_
    obtain rfl := Option.some.inj hR
    exact RetQ.frw [] (.inr rfl) rfl rfl rfl (.tup (.cons (.agg (.cons .refl (.cons .nil .refl))) .refl))
   ·rw [hb4]; first | replace hR := cond_t hb4 hR | (try simp only [hb4, bb] at hR)
    refine GX.m rfl ?_
    refine GX.pure (v' := .int .i64 (c8a.length : Int)) rfl rfl rfl rfl (len_map _ _) ?_
    iterate 2 refine GX.q (.bool (decide (201 < (c8a.length : Int)))) ?_
    refine GX.done ?_
    rcases bool_two (decide (201 < (c8a.length : Int))) with hb5 | hb5
    ·rw [hb5]; first | replace hR := cond_f hb5 hR | (try simp only [hb5, bb] at hR)
     refine WK.condF rfl ?_
     refine WK.skip ?_
     refine WK.seq ?_
     refine WK.drawn mixed ?_
     refine RD.m rfl ?_
     refine RD.idxT (c := c_u32) (x := x902) rfl rfl rfl hx9020 hx902 ?_
     refine RD.q (.int .u32 x902) ?_
     refine RD.m rfl ?_
     rcases bool_two (decide ((1 : Int) ≤ (c8a.length : Int))) with hg6 | hg6
     ·simp only [hg6, bb] at hR
      try dsimp only at hR
      cases hR
     simp only [hg6, bb] at hR
     have hg6_ := of_decide_eq_true hg6
     refine RD.sliceLo (c := c_u32) (M := (c8a.drop 1)) rfl rfl rfl (by omega) (by omega) rfl ?_
     refine RD.q (.agg [.int .u32 x902, .ro 1 ((c8a.drop 1).map c_u32)]) ?_
     refine RD.step0 (heap' := [(0, .box [.int .u32 x902, .ro 1 ((c8a.drop 1).map c_u32)])]) (next' := 1) rfl rfl rfl rfl rfl ?_
     refine RD.m rfl ?_
     refine RD.done rfl ?_
     refine WK.ret ?_
     obtain rfl := Option.some.inj hR
     exact RetQ.fr [] (.inr rfl) rfl rfl rfl rfl
    ·rw [hb5]; first | replace hR := cond_t hb5 hR | (try simp only [hb5, bb] at hR)
     refine WK.condT rfl ?_
     refine WK.sr mixed ?_
     refine GX.q (.agg [.int .u32 0, .nils]) ?_
     refine GX.step0 (heap' := [(0, .box [.int .u32 0, .nils])]) (next' := 1) rfl rfl rfl rfl rfl ?_
     refine GX.m rfl ?_
     refine GX.done ?_
     refine WK.ret ?_
     obtain rfl := Option.some.inj hR
     exact RetQ.frw [] (.inr rfl) rfl rfl rfl (.tup (.cons (.agg (.cons .refl (.cons .nil .refl))) .refl))
  ·rw [hb2]; first | replace hR := cond_t hb2 hR | (try simp only [hb2, bb] at hR)
   refine WK.condT rfl ?_
   refine WK.sr mixed ?_
   refine GX.q (.agg [.int .u32 0, .nils]) ?_
   refine GX.step0 (heap' := [(0, .box [.int .u32 0, .nils])]) (next' := 1) rfl rfl rfl rfl rfl ?_
   refine GX.m rfl ?_
   refine GX.done ?_
   refine WK.ret ?_
   obtain rfl := Option.some.inj hR
   exact RetQ.frw [] (.inr rfl) rfl rfl rfl (.tup (.cons (.agg (.cons .refl (.cons .nil .refl))) .refl))

end Go.Proofs.Ytbmdpedhobkeeaa.Abs
