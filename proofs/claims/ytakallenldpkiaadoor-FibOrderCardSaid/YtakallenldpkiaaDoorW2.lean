/- The functions walked: each computes its Lean function (printed by this work's own program gen.py). -/
import Derived.Test.YtakallenldpkiaaDoorSb
import Derived.Test.YtakallenldpkiaaDoorW1
set_option linter.unusedVariables false
set_option linter.unusedSimpArgs false
set_option maxRecDepth 10000
set_option maxHeartbeats 4000000
namespace Go.Proofs.YtakallenldpkiaaDoor.Abs
open Go
theorem f14_ok (f0 : TFib) (p1 : TPrefix) (hops2 : List THop) (R : Int × TFib) (hR : F14_fib_Fib_Set f0 p1 hops2 = some R) : FnOk Tryd.prog 14 [.ptr 0 0, .agg (TPrefix.c p1), .ro 2 (hops2.map THop.c)] [(0, .box [.ptr 1 0, .own 4 3 0 f0.sets.length, .mapr 5]), (1, .box [.own 2 6 0 f0.t.l.length, .own 3 1 0 f0.t.free.length, .int .i64 f0.t.root, .int .i64 f0.t.n]), (2, .row 6 96 (f0.t.l.map TNode.c)), (3, .row 1 3 (f0.t.free.map c_i64)), (4, .row 3 68 (f0.sets.map TGroup.c)), (5, .mq f0.atf.1 (f0.atf.2.map (encE (fun y => .int .i64 y))))] 6 (.int .i64 R.1) [(0, .box [.ptr 1 0, .own 8 3 0 R.2.sets.length, .mapr 5]), (1, .box [.own 6 6 0 R.2.t.l.length, .own 7 1 0 R.2.t.free.length, .int .i64 R.2.t.root, .int .i64 R.2.t.n]), (5, .mq R.2.atf.1 (R.2.atf.2.map (encE (fun y => .int .i64 y)))), (6, .row 6 96 (R.2.t.l.map TNode.c)), (7, .row 1 3 (R.2.t.free.map c_i64)), (8, .row 3 68 (R.2.sets.map TGroup.c))] 9 := by
 refine FnOk.wk i14 rfl rfl ?_
 unfold F14_fib_Fib_Set at hR
 try dsimp only at hR
 change WK _ _ _ [ac14] _ ⟨[(0, .ptr 0 0), (1, .agg (TPrefix.c p1)), (2, .ro 2 (hops2.map THop.c))], [(0, .box [.ptr 1 0, .own 4 3 0 f0.sets.length, .mapr 5]), (1, .box [.own 2 6 0 f0.t.l.length, .own 3 1 0 f0.t.free.length, .int .i64 f0.t.root, .int .i64 f0.t.n]), (2, .row 6 96 (f0.t.l.map TNode.c)), (3, .row 1 3 (f0.t.free.map c_i64)), (4, .row 3 68 (f0.sets.map TGroup.c)), (5, .mq f0.atf.1 (f0.atf.2.map (encE (fun y => .int .i64 y))))], 6⟩
 unfold ac14
 refine WK.mvB (id := 1) (j := 0) (heap' := [(0, .box [.ptr 1 0, .own 4 3 0 f0.sets.length, .mapr 5]), (1, .box [.own 6 6 0 f0.t.l.length, .own 3 1 0 f0.t.free.length, .int .i64 f0.t.root, .int .i64 f0.t.n]), (3, .row 1 3 (f0.t.free.map c_i64)), (4, .row 3 68 (f0.sets.map TGroup.c)), (5, .mq f0.atf.1 (f0.atf.2.map (encE (fun y => .int .i64 y)))), (6, .row 6 96 (f0.t.l.map TNode.c))]) rfl rfl rfl (by simp) rfl (WK.mvB (id := 1) (j := 1) (heap' := [(0, .box [.ptr 1 0, .own 4 3 0 f0.sets.length, .mapr 5]), (1, .box [.own 6 6 0 f0.t.l.length, .own 7 1 0 f0.t.free.length, .int .i64 f0.t.root, .int .i64 f0.t.n]), (4, .row 3 68 (f0.sets.map TGroup.c)), (5, .mq f0.atf.1 (f0.atf.2.map (encE (fun y => .int .i64 y)))), (6, .row 6 96 (f0.t.l.map TNode.c)), (7, .row 1 3 (f0.t.free.map c_i64))]) rfl rfl rfl (by simp) rfl (WK.mvB (id := 0) (j := 1) (heap' := [(0, .box [.ptr 1 0, .own 8 3 0 f0.sets.length, .mapr 5]), (1, .box [.own 6 6 0 f0.t.l.length, .own 7 1 0 f0.t.free.length, .int .i64 f0.t.root, .int .i64 f0.t.n]), (5, .mq f0.atf.1 (f0.atf.2.map (encE (fun y => .int .i64 y)))), (6, .row 6 96 (f0.t.l.map TNode.c)), (7, .row 1 3 (f0.t.free.map c_i64)), (8, .row 3 68 (f0.sets.map TGroup.c))]) rfl rfl rfl (by simp) rfl (WK.sr mixed (GX.step (v' := .ptr 9 0) (heap' := [(0, .box [.ptr 1 0, .own 8 3 0 f0.sets.length, .mapr 5]), (1, .box [.own 6 6 0 f0.t.l.length, .own 7 1 0 f0.t.free.length, .int .i64 f0.t.root, .int .i64 f0.t.n]), (5, .mq f0.atf.1 (f0.atf.2.map (encE (fun y => .int .i64 y)))), (6, .row 6 96 (f0.t.l.map TNode.c)), (7, .row 1 3 (f0.t.free.map c_i64)), (8, .row 3 68 (f0.sets.map TGroup.c)), (9, .box (TPrefix.c p1))]) (next' := 10) rfl rfl rfl rfl rfl rfl rfl (GX.m rfl (GX.done (WK.sr mixed (GX.m rfl ?_))))))))
 obtain ⟨c10, hc10, hR⟩ := obind_inv hR; try dsimp only at hR
 try dsimp only at hR
 refine GX.callp (r := .ro 2 (c10.map THop.c)) rfl rfl rfl (f20_ok hops2 _ hc10) rfl rfl (GX.m rfl (GX.done (WK.seq (WK.sr mixed (GX.m rfl (GX.q (.bool false) (GX.m rfl (GX.q (.agg (TPrefix.c p1)) ?_))))))))
 generalize hc15 : F23_addr_May p1 = c15 at hR
 try dsimp only at hR
 refine GX.callp (r := .bool c15) rfl rfl rfl (f23_ok p1 _ hc15) rfl rfl (GX.q (.bool (!c15)) (GX.q (.bool (!c15)) (GX.m rfl ?_)))
 rcases bool_two (c15) with hb1 | hb1
 ·rw [hb1]; first | replace hR := cond_f hb1 hR | (try simp only [hb1, bb] at hR)
  refine GX.skip rfl rfl (GX.skip rfl rfl (GX.skip rfl rfl (GX.q (.bool true) (GX.m rfl (GX.skip rfl rfl (GX.skip rfl rfl (GX.skip rfl rfl (GX.q (.bool true) (GX.done (WK.condT rfl (WK.sr mixed (GX.m rfl (GX.done ?_)))))))))))))
  refine WK.ret ?_
  obtain rfl := Option.some.inj hR
  exact RetQ.ret [0, 1, 2, 3, 4, 5, 6, 7, 8] [] (.inr rfl) rfl rfl rfl rfl rfl .refl rfl
 ·rw [hb1]; first | replace hR := cond_t hb1 hR | (try simp only [hb1, bb] at hR)
  refine GX.m rfl ?_
  refine GX.pure (v' := .int .i64 (c10.length : Int)) rfl rfl rfl rfl (len_map _ _) ?_
  iterate 2 refine GX.q (.bool (decide ((c10.length : Int) = 0))) ?_
  refine GX.m rfl ?_
  rcases bool_two (decide ((c10.length : Int) = 0)) with hb2 | hb2
  ·rw [hb2]; first | replace hR := cond_f hb2 hR | (try simp only [hb2, bb] at hR)
   refine GX.m rfl ?_
   refine GX.pure (v' := .int .i64 (c10.length : Int)) rfl rfl rfl rfl (len_map _ _) ?_
   iterate 2 refine GX.q (.bool (decide (8 < (c10.length : Int)))) ?_
   refine GX.done ?_
   rcases bool_two (decide (8 < (c10.length : Int))) with hb3 | hb3
   ·rw [hb3]; first | replace hR := cond_f hb3 hR | (try simp only [hb3, bb] at hR)
    refine WK.condF rfl (WK.skip (WK.seq (WK.sr mixed (GX.m rfl (GX.q (.agg (TPrefix.c p1)) (GX.m rfl ?_))))))
    obtain ⟨c31, hc31, hR⟩ := obind_inv hR; try dsimp only at hR
    try dsimp only at hR
    refine GX.callx (r' := .bool c31) (heap' := [(0, .box [.ptr 1 0, .own 8 3 0 f0.sets.length, .mapr 5]), (1, .box [.own 6 6 0 f0.t.l.length, .own 7 1 0 f0.t.free.length, .int .i64 f0.t.root, .int .i64 f0.t.n]), (5, .mq f0.atf.1 (f0.atf.2.map (encE (fun y => .int .i64 y)))), (6, .row 6 96 (f0.t.l.map TNode.c)), (7, .row 1 3 (f0.t.free.map c_i64)), (8, .row 3 68 (f0.sets.map TGroup.c)), (9, .box (TPrefix.c p1))]) (next' := 10) [0, 1, 6, 7, 8, 5] [] rfl rfl rfl rfl rfl rfl (f19_ok f0 p1 c10 _ hc31) (.inl rfl) rfl rfl rfl (GX.done ?_)
    rcases bool_two (c31) with hb5 | hb5
    ·rw [hb5]; first | replace hR := cond_f hb5 hR | (try simp only [hb5, bb] at hR)
     refine WK.condF rfl (WK.skip (WK.seq (WK.sr mixed (GX.m rfl (GX.q (.agg (TPrefix.c p1)) ?_)))))
     obtain ⟨c34, hc34, hR⟩ := obind_inv hR; try dsimp only at hR
     refine GX.callx (r' := .bool c34.1) (heap' := [(0, .box [.ptr 1 0, .own 12 3 0 c34.2.sets.length, .mapr 5]), (1, .box [.own 10 6 0 c34.2.t.l.length, .own 11 1 0 c34.2.t.free.length, .int .i64 c34.2.t.root, .int .i64 c34.2.t.n]), (5, .mq c34.2.atf.1 (c34.2.atf.2.map (encE (fun y => .int .i64 y)))), (9, .box (TPrefix.c p1)), (12, .row 3 68 (c34.2.sets.map TGroup.c)), (11, .row 1 3 (c34.2.t.free.map c_i64)), (10, .row 6 96 (c34.2.t.l.map TNode.c))]) (next' := 13) [0, 1, 6, 7, 8, 5] [] rfl rfl rfl rfl rfl rfl (f15_ok f0 p1 _ hc34) (.inl rfl) rfl rfl rfl (GX.q (.bool (!c34.1)) (GX.done ?_))
     rcases bool_two (c34.1) with hb7 | hb7
     ·rw [hb7]; first | replace hR := cond_f hb7 hR | (try simp only [hb7, bb] at hR)
      refine WK.condT rfl (WK.seq (WK.drawn mixed (RD.m rfl (RD.nilc 0 rfl rfl rfl rfl rfl (RD.fldc 0 rfl rfl rfl rfl rfl (RD.loadc (.ptr 1 0) rfl rfl rfl rfl rfl (RD.q (.agg (TPrefix.c p1)) ?_)))))))
      obtain ⟨c41, hc41, hR⟩ := obind_inv hR; try dsimp only at hR
      refine RD.callx (r' := .int .i64 c41.1) (heap' := [(0, .box [.ptr 1 0, .own 12 3 0 c34.2.sets.length, .mapr 5]), (1, .box [.own 13 6 0 c41.2.l.length, .own 14 1 0 c41.2.free.length, .int .i64 c41.2.root, .int .i64 c41.2.n]), (5, .mq c34.2.atf.1 (c34.2.atf.2.map (encE (fun y => .int .i64 y)))), (9, .box (TPrefix.c p1)), (12, .row 3 68 (c34.2.sets.map TGroup.c)), (14, .row 1 3 (c41.2.free.map c_i64)), (13, .row 6 96 (c41.2.l.map TNode.c))]) (next' := 15) [1, 10, 11] [] rfl rfl rfl rfl rfl rfl (f24_ok c34.2.t p1 0 _ hc41) (.inl rfl) rfl rfl rfl (RD.m rfl (RD.done rfl (WK.sr mixed (GX.m rfl (GX.q (.bool (!decide (c41.1 = 0))) (GX.done ?_))))))
      rcases bool_two (decide (c41.1 = 0)) with hb9 | hb9
      ·rw [hb9]; first | replace hR := cond_f hb9 hR | (try simp only [hb9, bb] at hR)
       refine WK.condT rfl (WK.sr mixed (GX.m rfl (GX.m rfl (GX.done (WK.ret ?_)))))
       obtain rfl := Option.some.inj hR
       exact RetQ.ret [0, 1, 2, 3, 4, 5, 13, 14, 12] [] (.inr rfl) rfl rfl rfl rfl rfl .refl rfl
      ·rw [hb9]; first | replace hR := cond_t hb9 hR | (try simp only [hb9, bb] at hR)
       refine WK.condF rfl (WK.skip (WK.seq (WK.drawn mixed (RD.m rfl (RD.nilc 0 rfl rfl rfl rfl rfl (RD.fldc 0 rfl rfl rfl rfl rfl (RD.loadc (.ptr 1 0) rfl rfl rfl rfl rfl (RD.q (.agg (TPrefix.c p1)) (RD.m rfl (RD.m rfl ?_))))))))))
       obtain ⟨c52, hc52, hR⟩ := obind_inv hR; try dsimp only at hR
       refine RD.callxk (r' := .int .i64 c52.1) (heap' := [(0, .box [.ptr 1 0, .own 17 3 0 c52.2.sets.length, .mapr 5]), (1, .box [.own 15 6 0 c52.2.t.l.length, .own 16 1 0 c52.2.t.free.length, .int .i64 c52.2.t.root, .int .i64 c52.2.t.n]), (5, .mq c52.2.atf.1 (c52.2.atf.2.map (encE (fun y => .int .i64 y)))), (9, .box (TPrefix.c p1)), (17, .row 3 68 (c52.2.sets.map TGroup.c)), (16, .row 1 3 (c52.2.t.free.map c_i64)), (15, .row 6 96 (c52.2.t.l.map TNode.c))]) (next' := 18) [(0, 0)] (by simp only [List.forall_mem_cons]; exact ⟨rfl, fun x hx => by cases hx⟩) [0, 1, 13, 14, 12, 5] [] rfl rfl rfl rfl rfl rfl (f25_ok (⟨c41.2, c34.2.sets, c34.2.atf⟩ : TFib) c10 _ hc52) (.inl rfl) rfl rfl rfl ?_
       obtain ⟨c53, hc53, hR⟩ := obind_inv hR; try dsimp only at hR
       refine RD.callx (r' := .int .i64 c53.1) (heap' := [(0, .box [.ptr 1 0, .own 17 3 0 c52.2.sets.length, .mapr 5]), (1, .box [.own 18 6 0 c53.2.l.length, .own 19 1 0 c53.2.free.length, .int .i64 c53.2.root, .int .i64 c53.2.n]), (5, .mq c52.2.atf.1 (c52.2.atf.2.map (encE (fun y => .int .i64 y)))), (9, .box (TPrefix.c p1)), (17, .row 3 68 (c52.2.sets.map TGroup.c)), (19, .row 1 3 (c53.2.free.map c_i64)), (18, .row 6 96 (c53.2.l.map TNode.c))]) (next' := 20) [1, 15, 16] [] rfl rfl rfl rfl rfl rfl (f24_ok c52.2.t p1 c52.1 _ hc53) (.inl rfl) rfl rfl rfl (RD.m rfl (RD.done rfl (WK.ret ?_)))
       obtain rfl := Option.some.inj hR
       exact RetQ.ret [0, 1, 2, 3, 4, 5, 18, 19, 17] [] (.inr rfl) rfl rfl rfl rfl rfl .refl rfl
     ·rw [hb7]; first | replace hR := cond_t hb7 hR | (try simp only [hb7, bb] at hR)
      refine WK.condF rfl (WK.skip (WK.seq (WK.drawn mixed (RD.m rfl (RD.nilc 0 rfl rfl rfl rfl rfl (RD.fldc 0 rfl rfl rfl rfl rfl (RD.loadc (.ptr 1 0) rfl rfl rfl rfl rfl (RD.q (.agg (TPrefix.c p1)) (RD.m rfl (RD.m rfl ?_))))))))))
      obtain ⟨c52, hc52, hR⟩ := obind_inv hR; try dsimp only at hR
      refine RD.callxk (r' := .int .i64 c52.1) (heap' := [(0, .box [.ptr 1 0, .own 15 3 0 c52.2.sets.length, .mapr 5]), (1, .box [.own 13 6 0 c52.2.t.l.length, .own 14 1 0 c52.2.t.free.length, .int .i64 c52.2.t.root, .int .i64 c52.2.t.n]), (5, .mq c52.2.atf.1 (c52.2.atf.2.map (encE (fun y => .int .i64 y)))), (9, .box (TPrefix.c p1)), (15, .row 3 68 (c52.2.sets.map TGroup.c)), (14, .row 1 3 (c52.2.t.free.map c_i64)), (13, .row 6 96 (c52.2.t.l.map TNode.c))]) (next' := 16) [(0, 0)] (by simp only [List.forall_mem_cons]; exact ⟨rfl, fun x hx => by cases hx⟩) [0, 1, 10, 11, 12, 5] [] rfl rfl rfl rfl rfl rfl (f25_ok c34.2 c10 _ hc52) (.inl rfl) rfl rfl rfl ?_
      obtain ⟨c53, hc53, hR⟩ := obind_inv hR; try dsimp only at hR
      refine RD.callx (r' := .int .i64 c53.1) (heap' := [(0, .box [.ptr 1 0, .own 15 3 0 c52.2.sets.length, .mapr 5]), (1, .box [.own 16 6 0 c53.2.l.length, .own 17 1 0 c53.2.free.length, .int .i64 c53.2.root, .int .i64 c53.2.n]), (5, .mq c52.2.atf.1 (c52.2.atf.2.map (encE (fun y => .int .i64 y)))), (9, .box (TPrefix.c p1)), (15, .row 3 68 (c52.2.sets.map TGroup.c)), (17, .row 1 3 (c53.2.free.map c_i64)), (16, .row 6 96 (c53.2.l.map TNode.c))]) (next' := 18) [1, 13, 14] [] rfl rfl rfl rfl rfl rfl (f24_ok c52.2.t p1 c52.1 _ hc53) (.inl rfl) rfl rfl rfl (RD.m rfl (RD.done rfl (WK.ret ?_)))
      obtain rfl := Option.some.inj hR
      exact RetQ.ret [0, 1, 2, 3, 4, 5, 16, 17, 15] [] (.inr rfl) rfl rfl rfl rfl rfl .refl rfl
    ·rw [hb5]; first | replace hR := cond_t hb5 hR | (try simp only [hb5, bb] at hR)
     refine WK.condT rfl (WK.sr mixed (GX.m rfl (GX.done (WK.ret ?_))))
     obtain rfl := Option.some.inj hR
     exact RetQ.ret [0, 1, 2, 3, 4, 5, 6, 7, 8] [] (.inr rfl) rfl rfl rfl rfl rfl .refl rfl
   ·rw [hb3]; first | replace hR := cond_t hb3 hR | (try simp only [hb3, bb] at hR)
    refine WK.condT rfl (WK.sr mixed (GX.m rfl (GX.done (WK.ret ?_))))
    obtain rfl := Option.some.inj hR
    exact RetQ.ret [0, 1, 2, 3, 4, 5, 6, 7, 8] [] (.inr rfl) rfl rfl rfl rfl rfl .refl rfl
  ·rw [hb2]; first | replace hR := cond_t hb2 hR | (try simp only [hb2, bb] at hR)
   refine GX.skip rfl rfl (GX.skip rfl rfl (GX.skip rfl rfl (GX.q (.bool true) (GX.done (WK.condT rfl (WK.sr mixed (GX.m rfl (GX.done (WK.ret ?_)))))))))
   obtain rfl := Option.some.inj hR
   exact RetQ.ret [0, 1, 2, 3, 4, 5, 6, 7, 8] [] (.inr rfl) rfl rfl rfl rfl rfl .refl rfl
theorem f7_ok  (R : Bool) (hR : F7_crossroadslaw27_alive = some R) : FnOk Tryd.prog 7 [] [] 0 (.bool R) [] 0 := by
 refine FnOk.wk i7 rfl rfl ?_
 unfold F7_crossroadslaw27_alive at hR
 try dsimp only at hR
 change WK _ _ _ [ac7] _ ⟨[], [], 0⟩
 unfold ac7
 refine WK.sr mixed (GX.m rfl (GX.done (WK.sr mixed ?_)))
 generalize hc8 : F5_fib_New = c8 at hR
 try dsimp only at hR
 refine GX.callx (r' := .ptr 0 0) (heap' := [(5, .mq c8.atf.1 (c8.atf.2.map (encE (fun y => .int .i64 y)))), (4, .row 3 68 (c8.sets.map TGroup.c)), (3, .row 1 3 (c8.t.free.map c_i64)), (2, .row 6 96 (c8.t.l.map TNode.c)), (1, .box [.own 2 6 0 c8.t.l.length, .own 3 1 0 c8.t.free.length, .int .i64 c8.t.root, .int .i64 c8.t.n]), (0, .box [.ptr 1 0, .own 4 3 0 c8.sets.length, .mapr 5])]) (next' := 6) [] [] rfl rfl rfl rfl rfl rfl (f5_ok  _ hc8) (.inl rfl) rfl rfl rfl (GX.m rfl (GX.done (WK.seq (WK.sr mixed (GX.m rfl (GX.q (.bool false) (GX.done (WK.condF rfl (WK.skip (WK.sr mixed (GX.q (.agg [.int .i64 3, .int .u32 0]) (GX.q (.agg [.int .i64 1, .int .u32 0]) (GX.q (.agg [.int .i64 3, .int .u32 0]) ?_)))))))))))))
 refine GX.step (v' := .own 6 2 0 (([(⟨3, 0⟩ : THop), (⟨1, 0⟩ : THop), (⟨3, 0⟩ : THop)] : List THop)).length) (heap' := [(5, .mq c8.atf.1 (c8.atf.2.map (encE (fun y => .int .i64 y)))), (4, .row 3 68 (c8.sets.map TGroup.c)), (3, .row 1 3 (c8.t.free.map c_i64)), (2, .row 6 96 (c8.t.l.map TNode.c)), (1, .box [.own 2 6 0 c8.t.l.length, .own 3 1 0 c8.t.free.length, .int .i64 c8.t.root, .int .i64 c8.t.n]), (0, .box [.ptr 1 0, .own 4 3 0 c8.sets.length, .mapr 5]), (6, .row 2 45 (([(⟨3, 0⟩ : THop), (⟨1, 0⟩ : THop), (⟨3, 0⟩ : THop)] : List THop).map THop.c))]) (next' := 7) rfl rfl rfl rfl rfl rfl rfl (GX.m rfl (GX.done (WK.seq ?_)))
 refine WK.conv (st' := ⟨[(1, .ptr 0 0), (2, .ro 2 (([(⟨3, 0⟩ : THop), (⟨1, 0⟩ : THop), (⟨3, 0⟩ : THop)] : List THop).map THop.c))], [(0, .box [.ptr 1 0, .own 4 3 0 c8.sets.length, .mapr 5]), (1, .box [.own 2 6 0 c8.t.l.length, .own 3 1 0 c8.t.free.length, .int .i64 c8.t.root, .int .i64 c8.t.n]), (2, .row 6 96 (c8.t.l.map TNode.c)), (3, .row 1 3 (c8.t.free.map c_i64)), (4, .row 3 68 (c8.sets.map TGroup.c)), (5, .mq c8.atf.1 (c8.atf.2.map (encE (fun y => .int .i64 y))))], 6⟩) (Conv.keep [0, 1, 2, 3, 4, 5] [6] [1, 2] rfl rfl (viewE_cons rfl rfl (viewE_cons rfl (view_rowT rfl rfl) viewE_nil)) rfl rfl) ?_ (by simp)
 refine WK.regx mixed (GX.m rfl (GX.q (.agg [.int .u32 0, .int .i64 0]) (GX.m rfl ?_)))
 obtain ⟨c18, hc18, hR⟩ := obind_inv hR; try dsimp only at hR
 refine GX.callx (r' := .int .i64 c18.1) (heap' := [(0, .box [.ptr 1 0, .own 8 3 0 c18.2.sets.length, .mapr 5]), (1, .box [.own 6 6 0 c18.2.t.l.length, .own 7 1 0 c18.2.t.free.length, .int .i64 c18.2.t.root, .int .i64 c18.2.t.n]), (5, .mq c18.2.atf.1 (c18.2.atf.2.map (encE (fun y => .int .i64 y)))), (8, .row 3 68 (c18.2.sets.map TGroup.c)), (7, .row 1 3 (c18.2.t.free.map c_i64)), (6, .row 6 96 (c18.2.t.l.map TNode.c))]) (next' := 9) [0, 1, 2, 3, 4, 5] [] rfl rfl rfl rfl rfl rfl (f14_ok c8 (⟨0, 0⟩ : TPrefix) ([(⟨3, 0⟩ : THop), (⟨1, 0⟩ : THop), (⟨3, 0⟩ : THop)] : List THop) _ hc18) (.inl rfl) rfl rfl rfl (GX.m rfl (GX.q (.agg [.int .u32 2147483648, .int .i64 1]) (GX.m rfl ?_)))
 obtain ⟨c22, hc22, hR⟩ := obind_inv hR; try dsimp only at hR
 refine GX.callx (r' := .int .i64 c22.1) (heap' := [(0, .box [.ptr 1 0, .own 11 3 0 c22.2.sets.length, .mapr 5]), (1, .box [.own 9 6 0 c22.2.t.l.length, .own 10 1 0 c22.2.t.free.length, .int .i64 c22.2.t.root, .int .i64 c22.2.t.n]), (5, .mq c22.2.atf.1 (c22.2.atf.2.map (encE (fun y => .int .i64 y)))), (11, .row 3 68 (c22.2.sets.map TGroup.c)), (10, .row 1 3 (c22.2.t.free.map c_i64)), (9, .row 6 96 (c22.2.t.l.map TNode.c))]) (next' := 12) [0, 1, 6, 7, 8, 5] [] rfl rfl rfl rfl rfl rfl (f14_ok c18.2 (⟨2147483648, 1⟩ : TPrefix) ([(⟨3, 0⟩ : THop), (⟨1, 0⟩ : THop), (⟨3, 0⟩ : THop)] : List THop) _ hc22) (.inl rfl) rfl rfl rfl (GX.m rfl (GX.m rfl (GX.done (WK.sr mixed (GX.m rfl ?_)))))
 obtain ⟨c25, hc25, hR⟩ := obind_inv hR; try dsimp only at hR
 refine GX.callx (r' := .tup [.agg (TPrefix.c c25.1), .ro 2 (c25.2.1.map THop.c), .bool c25.2.2]) (heap' := [(0, .box [.ptr 1 0, .own 11 3 0 c22.2.sets.length, .mapr 5]), (1, .box [.own 9 6 0 c22.2.t.l.length, .own 10 1 0 c22.2.t.free.length, .int .i64 c22.2.t.root, .int .i64 c22.2.t.n]), (5, .mq c22.2.atf.1 (c22.2.atf.2.map (encE (fun y => .int .i64 y)))), (11, .row 3 68 (c22.2.sets.map TGroup.c)), (10, .row 1 3 (c22.2.t.free.map c_i64)), (9, .row 6 96 (c22.2.t.l.map TNode.c))]) (next' := 12) [0, 1, 9, 10, 11, 5] [] rfl rfl rfl rfl rfl rfl (f9_ok c22.2 2147483648 _ hc25) (.inl rfl) rfl rfl rfl (GX.m rfl (GX.q (.agg (TPrefix.c c25.1)) (GX.q (.ro 2 (c25.2.1.map THop.c)) (GX.q (.bool c25.2.2) (GX.step (v' := .ptr 12 0) (heap' := [(0, .box [.ptr 1 0, .own 11 3 0 c22.2.sets.length, .mapr 5]), (1, .box [.own 9 6 0 c22.2.t.l.length, .own 10 1 0 c22.2.t.free.length, .int .i64 c22.2.t.root, .int .i64 c22.2.t.n]), (5, .mq c22.2.atf.1 (c22.2.atf.2.map (encE (fun y => .int .i64 y)))), (11, .row 3 68 (c22.2.sets.map TGroup.c)), (10, .row 1 3 (c22.2.t.free.map c_i64)), (9, .row 6 96 (c22.2.t.l.map TNode.c)), (12, .box [.int .u32 0, .int .i64 0])]) (next' := 13) rfl rfl rfl rfl rfl rfl rfl (GX.step0 (heap' := [(0, .box [.ptr 1 0, .own 11 3 0 c22.2.sets.length, .mapr 5]), (1, .box [.own 9 6 0 c22.2.t.l.length, .own 10 1 0 c22.2.t.free.length, .int .i64 c22.2.t.root, .int .i64 c22.2.t.n]), (5, .mq c22.2.atf.1 (c22.2.atf.2.map (encE (fun y => .int .i64 y)))), (11, .row 3 68 (c22.2.sets.map TGroup.c)), (10, .row 1 3 (c22.2.t.free.map c_i64)), (9, .row 6 96 (c22.2.t.l.map TNode.c)), (12, .box (TPrefix.c c25.1))]) (next' := 13) rfl rfl rfl rfl rfl (GX.m rfl (GX.m rfl (GX.done (WK.sr mixed (GX.m rfl (GX.q (.bool (decide (c18.1 = 0))) (GX.m rfl ?_)))))))))))))
 rcases bool_two (decide (c18.1 = 0)) with hb5 | hb5
 ·rw [hb5]; first | replace hR := cond_f hb5 hR | (try simp only [hb5, bb] at hR)
  refine GX.skip rfl rfl (GX.skip rfl rfl (GX.q (.bool false) (GX.m rfl (GX.skip rfl rfl (GX.skip rfl rfl (GX.skip rfl rfl (GX.q (.bool false) (GX.m rfl (GX.skip rfl rfl (GX.q (.bool false) (GX.m rfl (GX.skip rfl rfl (GX.skip rfl rfl (GX.skip rfl rfl ?_))))))))))))))
  refine GX.q (.bool false) (GX.m rfl (GX.skip rfl rfl (GX.skip rfl rfl (GX.skip rfl rfl (GX.q (.bool false) (GX.m rfl ?_))))))
  iterate 5 refine GX.skip rfl rfl ?_
  refine GX.q (.bool false) (GX.m rfl (GX.done (WK.ret ?_)))
  obtain rfl := Option.some.inj hR
  exact RetQ.fr [] (.inr rfl) rfl rfl rfl rfl
 ·rw [hb5]; first | replace hR := cond_t hb5 hR | (try simp only [hb5, bb] at hR)
  refine GX.m rfl ?_
  iterate 2 refine GX.q (.bool (decide (c22.1 = 0))) ?_
  refine GX.m rfl ?_
  rcases bool_two (decide (c22.1 = 0)) with hb6 | hb6
  ·rw [hb6]; first | replace hR := cond_f hb6 hR | (try simp only [hb6, bb] at hR)
   refine GX.skip rfl rfl (GX.skip rfl rfl (GX.skip rfl rfl (GX.q (.bool false) (GX.m rfl (GX.skip rfl rfl (GX.q (.bool false) (GX.m rfl (GX.skip rfl rfl (GX.skip rfl rfl (GX.skip rfl rfl (GX.q (.bool false) (GX.m rfl (GX.skip rfl rfl (GX.skip rfl rfl (GX.skip rfl rfl ?_)))))))))))))))
   refine GX.q (.bool false) (GX.m rfl ?_)
   iterate 5 refine GX.skip rfl rfl ?_
   refine GX.q (.bool false) (GX.m rfl (GX.done (WK.ret ?_)))
   obtain rfl := Option.some.inj hR
   exact RetQ.fr [] (.inr rfl) rfl rfl rfl rfl
  ·rw [hb6]; first | replace hR := cond_t hb6 hR | (try simp only [hb6, bb] at hR)
   refine GX.m rfl ?_
   obtain ⟨c37, hc37, hR⟩ := obind_inv hR; try dsimp only at hR
   try dsimp only at hR
   refine GX.callx (r' := .int .i64 c37) (heap' := [(0, .box [.ptr 1 0, .own 11 3 0 c22.2.sets.length, .mapr 5]), (1, .box [.own 9 6 0 c22.2.t.l.length, .own 10 1 0 c22.2.t.free.length, .int .i64 c22.2.t.root, .int .i64 c22.2.t.n]), (5, .mq c22.2.atf.1 (c22.2.atf.2.map (encE (fun y => .int .i64 y)))), (11, .row 3 68 (c22.2.sets.map TGroup.c)), (10, .row 1 3 (c22.2.t.free.map c_i64)), (9, .row 6 96 (c22.2.t.l.map TNode.c)), (12, .box (TPrefix.c c25.1))]) (next' := 13) [0, 1, 9, 10, 11, 5] [] rfl rfl rfl rfl rfl rfl (f12_ok c22.2 _ hc37) (.inl rfl) rfl rfl rfl ?_
   iterate 2 refine GX.q (.bool (decide (c37 = 1))) ?_
   refine GX.m rfl ?_
   rcases bool_two (decide (c37 = 1)) with hb8 | hb8
   ·rw [hb8]; first | replace hR := cond_f hb8 hR | (try simp only [hb8, bb] at hR)
    refine GX.skip rfl rfl (GX.q (.bool false) (GX.m rfl (GX.skip rfl rfl (GX.skip rfl rfl (GX.skip rfl rfl (GX.q (.bool false) (GX.m rfl (GX.skip rfl rfl (GX.skip rfl rfl (GX.skip rfl rfl (GX.q (.bool false) (GX.m rfl ?_))))))))))))
    iterate 5 refine GX.skip rfl rfl ?_
    refine GX.q (.bool false) (GX.m rfl (GX.done (WK.ret ?_)))
    obtain rfl := Option.some.inj hR
    exact RetQ.fr [] (.inr rfl) rfl rfl rfl rfl
   ·rw [hb8]; first | replace hR := cond_t hb8 hR | (try simp only [hb8, bb] at hR)
    refine GX.m rfl (GX.q (.bool c25.2.2) (GX.m rfl ?_))
    rcases bool_two (c25.2.2) with hb9 | hb9
    ·rw [hb9]; first | replace hR := cond_f hb9 hR | (try simp only [hb9, bb] at hR)
     refine GX.skip rfl rfl (GX.skip rfl rfl (GX.skip rfl rfl (GX.q (.bool false) (GX.m rfl (GX.skip rfl rfl (GX.skip rfl rfl (GX.skip rfl rfl (GX.q (.bool false) (GX.m rfl ?_)))))))))
     iterate 5 refine GX.skip rfl rfl ?_
     refine GX.q (.bool false) (GX.m rfl (GX.done (WK.ret ?_)))
     obtain rfl := Option.some.inj hR
     exact RetQ.fr [] (.inr rfl) rfl rfl rfl rfl
    ·rw [hb9]; first | replace hR := cond_t hb9 hR | (try simp only [hb9, bb] at hR)
     refine GX.q (.ptr 12 1) (GX.q (.int .i64 c25.1.N) (GX.q (.bool (decide (c25.1.N = 1))) (GX.q (.bool (decide (c25.1.N = 1))) (GX.m rfl ?_))))
     rcases bool_two (decide (c25.1.N = 1)) with hb10 | hb10
     ·rw [hb10]; first | replace hR := cond_f hb10 hR | (try simp only [hb10, bb] at hR)
      refine GX.skip rfl rfl (GX.skip rfl rfl (GX.skip rfl rfl (GX.q (.bool false) (GX.m rfl ?_))))
      iterate 5 refine GX.skip rfl rfl ?_
      refine GX.q (.bool false) (GX.m rfl (GX.done (WK.ret ?_)))
      obtain rfl := Option.some.inj hR
      exact RetQ.fr [] (.inr rfl) rfl rfl rfl rfl
     ·rw [hb10]; first | replace hR := cond_t hb10 hR | (try simp only [hb10, bb] at hR)
      refine GX.m rfl ?_
      refine GX.pure (v' := .int .i64 (c25.2.1.length : Int)) rfl rfl rfl rfl (len_map _ _) ?_
      iterate 2 refine GX.q (.bool (decide ((c25.2.1.length : Int) = 2))) ?_
      refine GX.m rfl ?_
      rcases bool_two (decide ((c25.2.1.length : Int) = 2)) with hb11 | hb11
      ·rw [hb11]; first | replace hR := cond_f hb11 hR | (try simp only [hb11, bb] at hR)
       iterate 5 refine GX.skip rfl rfl ?_
       refine GX.q (.bool false) (GX.m rfl (GX.done (WK.ret ?_)))
       obtain rfl := Option.some.inj hR
       exact RetQ.fr [] (.inr rfl) rfl rfl rfl rfl
      ·rw [hb11]; first | replace hR := cond_t hb11 hR | (try simp only [hb11, bb] at hR)
       refine GX.m rfl ?_
       obtain ⟨x911, hx911, hR⟩ := obind_inv hR; try dsimp only at hR
       obtain ⟨hx9110, hx911j, hx911l, hx911⟩ := getI_some hx911
       refine GX.idxT (c := THop.c) (x := x911) rfl rfl rfl hx9110 hx911 (GX.q (.rptr (THop.c x911)) (GX.q (.int .i64 x911.Iface) (GX.q (.bool (decide (x911.Iface = 1))) (GX.q (.bool (decide (x911.Iface = 1))) (GX.m rfl (GX.done (WK.ret ?_)))))))
       obtain rfl := Option.some.inj hR
       exact RetQ.fr [] (.inr rfl) rfl rfl rfl rfl
theorem f45_ok (fuel : Nat) : ∀ (i0 : Int) (a1 : TTrie) (a2 : TPrefix) (a3 : List TEntry) (R : (List TEntry)) (hR : F45_trie_Trie_Below_1 fuel i0 a1 a2 a3 = some R), FnOk Tryd.prog 45 [.int .i64 i0, .ptr 6 0, .ptr 1 0, .ptr 2 0, .ptr 7 0] [(0, .box [.own 3 6 0 a1.l.length, .own 4 1 0 a1.free.length, .int .i64 a1.root, .int .i64 a1.n]), (1, .box (TPrefix.c a2)), (2, .box [.own 5 3 0 a3.length]), (3, .row 6 96 (a1.l.map TNode.c)), (4, .row 1 3 (a1.free.map c_i64)), (5, .row 3 62 (a3.map TEntry.c)), (6, .box [.ptr 0 0]), (7, .box [.fn 45 [] [.ptr 6 0, .ptr 1 0, .ptr 2 0, .ptr 7 0]])] 8 (.tup []) [(0, .box [.own 3 6 0 a1.l.length, .own 4 1 0 a1.free.length, .int .i64 a1.root, .int .i64 a1.n]), (1, .box (TPrefix.c a2)), (2, .box [.own 8 3 0 R.length]), (3, .row 6 96 (a1.l.map TNode.c)), (4, .row 1 3 (a1.free.map c_i64)), (6, .box [.ptr 0 0]), (7, .box [.fn 45 [] [.ptr 6 0, .ptr 1 0, .ptr 2 0, .ptr 7 0]]), (8, .row 3 62 (R.map TEntry.c))] 9 := by
 induction fuel with
 | zero => intro i0 a1 a2 a3 R hR; cases hR
 | succ fuel ih =>
  intro i0 a1 a2 a3 R hR
  refine FnOk.wk i45 rfl rfl ?_
  unfold F45_trie_Trie_Below_1 at hR
  try dsimp only at hR
  change WK _ _ _ [ac45] _ ⟨[(0, .int .i64 i0), (1, .ptr 6 0), (2, .ptr 1 0), (3, .ptr 2 0), (4, .ptr 7 0)], [(0, .box [.own 3 6 0 a1.l.length, .own 4 1 0 a1.free.length, .int .i64 a1.root, .int .i64 a1.n]), (1, .box (TPrefix.c a2)), (2, .box [.own 5 3 0 a3.length]), (3, .row 6 96 (a1.l.map TNode.c)), (4, .row 1 3 (a1.free.map c_i64)), (5, .row 3 62 (a3.map TEntry.c)), (6, .box [.ptr 0 0]), (7, .box [.fn 45 [] [.ptr 6 0, .ptr 1 0, .ptr 2 0, .ptr 7 0]])], 8⟩
  unfold ac45
  refine WK.mvB (id := 2) (j := 0) (heap' := [(0, .box [.own 3 6 0 a1.l.length, .own 4 1 0 a1.free.length, .int .i64 a1.root, .int .i64 a1.n]), (1, .box (TPrefix.c a2)), (2, .box [.own 8 3 0 a3.length]), (3, .row 6 96 (a1.l.map TNode.c)), (4, .row 1 3 (a1.free.map c_i64)), (6, .box [.ptr 0 0]), (7, .box [.fn 45 [] [.ptr 6 0, .ptr 1 0, .ptr 2 0, .ptr 7 0]]), (8, .row 3 62 (a3.map TEntry.c))]) rfl rfl rfl (by simp) rfl (WK.seq (WK.sr mixed (GX.m rfl (GX.q (.bool (decide (i0 = (-1)))) (GX.done ?_)))))
  rcases bool_two (decide (i0 = (-1))) with hb1 | hb1
  ·rw [hb1]; first | replace hR := cond_f hb1 hR | (try simp only [hb1, bb] at hR)
   refine WK.condF rfl (WK.skip (WK.sr mixed (GX.q (.ptr 0 0) (GX.q (.ptr 0 0) (GX.q (.ptr 0 0) (GX.q (.own 3 6 0 a1.l.length) (GX.m rfl ?_)))))))
   obtain ⟨x901, hx901, hR⟩ := obind_inv hR; try dsimp only at hR
   obtain ⟨hx9010, hx901j, hx901l, hx901⟩ := getI_some hx901
   refine GX.pure (v' := .eptr 3 6 i0.toNat 0) rfl rfl rfl (core_idxoT (c := TNode.c) (L := a1.l) (j := i0.toNat) rfl hx901j hx901l (by exact Nat.le_refl _)) rfl (GX.pure (v' := .agg (TNode.c x901)) rfl rfl rfl (core_loaT (c := TNode.c) (L := a1.l) (x := x901) rfl hx901 rfl) rfl (GX.step (v' := .ptr 9 0) (heap' := [(0, .box [.own 3 6 0 a1.l.length, .own 4 1 0 a1.free.length, .int .i64 a1.root, .int .i64 a1.n]), (1, .box (TPrefix.c a2)), (2, .box [.own 8 3 0 a3.length]), (3, .row 6 96 (a1.l.map TNode.c)), (4, .row 1 3 (a1.free.map c_i64)), (6, .box [.ptr 0 0]), (7, .box [.fn 45 [] [.ptr 6 0, .ptr 1 0, .ptr 2 0, .ptr 7 0]]), (8, .row 3 62 (a3.map TEntry.c)), (9, .box [.int .u32 0, .int .i64 0, .int .i64 0, .bool false, .int .i64 0, .int .i64 0])]) (next' := 10) rfl rfl rfl rfl rfl rfl rfl (GX.step0 (heap' := [(0, .box [.own 3 6 0 a1.l.length, .own 4 1 0 a1.free.length, .int .i64 a1.root, .int .i64 a1.n]), (1, .box (TPrefix.c a2)), (2, .box [.own 8 3 0 a3.length]), (3, .row 6 96 (a1.l.map TNode.c)), (4, .row 1 3 (a1.free.map c_i64)), (6, .box [.ptr 0 0]), (7, .box [.fn 45 [] [.ptr 6 0, .ptr 1 0, .ptr 2 0, .ptr 7 0]]), (8, .row 3 62 (a3.map TEntry.c)), (9, .box (TNode.c x901))]) (next' := 10) rfl rfl rfl rfl rfl (GX.done (WK.seq (WK.sr mixed (GX.q (.ptr 9 3) (GX.q (.bool x901.isf) (GX.m rfl ?_)))))))))
   rcases bool_two (x901.isf) with hb3 | hb3
   ·rw [hb3]; first | replace hR := cond_f hb3 hR | (try simp only [hb3, bb] at hR)
    iterate 4 refine GX.skip rfl rfl ?_
    refine GX.q (.bool false) (GX.done (WK.condF rfl (WK.skip (WK.sr mixed (GX.q (.agg (TPrefix.c a2)) (GX.q (.ptr 9 0) (GX.q (.agg [.int .u32 x901.p.A, .int .i64 x901.p.N]) ?_)))))))
    generalize hc35 : F46_addr_Covers a2 x901.p = c35 at hR
    try dsimp only at hR
    refine GX.callp (r := .bool c35) rfl rfl rfl (f46_ok a2 x901.p _ hc35) rfl rfl (GX.m rfl ?_)
    rcases bool_two (c35) with hb4 | hb4
    ·rw [hb4]; first | replace hR := cond_f hb4 hR | (try simp only [hb4, bb] at hR)
     refine GX.q (.ptr 9 0) (GX.q (.agg [.int .u32 x901.p.A, .int .i64 x901.p.N]) (GX.q (.agg (TPrefix.c a2)) ?_))
     generalize hc40 : F46_addr_Covers x901.p a2 = c40 at hR
     try dsimp only at hR
     refine GX.callp (r := .bool c40) rfl rfl rfl (f46_ok x901.p a2 _ hc40) rfl rfl (GX.q (.bool c40) (GX.done ?_))
     rcases bool_two (c40) with hb5 | hb5
     ·rw [hb5]; first | replace hR := cond_f hb5 hR | (try simp only [hb5, bb] at hR)
      refine WK.condF rfl (WK.skip (WK.nil ?_))
      obtain rfl := Option.some.inj hR
      exact RetQ.ret [0, 1, 2, 3, 4, 5, 6, 7, 8] [] (.inl rfl) rfl rfl rfl rfl rfl .refl rfl
     ·rw [hb5]; first | replace hR := cond_t hb5 hR | (try simp only [hb5, bb] at hR)
      refine WK.condT rfl (WK.sr mixed (GX.q (.fn 45 [] [.ptr 6 0, .ptr 1 0, .ptr 2 0, .ptr 7 0]) (GX.q (.ptr 9 4) (GX.q (.ptr 9 4) (GX.q (.int .i64 x901.kids.e0) ?_)))))
      obtain ⟨c46, hc46, hR⟩ := obind_inv hR; try dsimp only at hR
      try dsimp only at hR
      refine GX.callvx (r' := .tup []) (heap' := [(0, .box [.own 3 6 0 a1.l.length, .own 4 1 0 a1.free.length, .int .i64 a1.root, .int .i64 a1.n]), (1, .box (TPrefix.c a2)), (2, .box [.own 10 3 0 c46.length]), (3, .row 6 96 (a1.l.map TNode.c)), (4, .row 1 3 (a1.free.map c_i64)), (6, .box [.ptr 0 0]), (7, .box [.fn 45 [] [.ptr 6 0, .ptr 1 0, .ptr 2 0, .ptr 7 0]]), (9, .box (TNode.c x901)), (10, .row 3 62 (c46.map TEntry.c))]) (next' := 11) [0, 1, 2, 3, 4, 8, 6, 7] [] rfl rfl rfl rfl rfl rfl (ih x901.kids.e0 a1 a2 a3 _ hc46) (.inl rfl) rfl rfl rfl (GX.done (WK.regx mixed (GX.q (.fn 45 [] [.ptr 6 0, .ptr 1 0, .ptr 2 0, .ptr 7 0]) (GX.q (.ptr 9 4) (GX.q (.ptr 9 5) (GX.q (.int .i64 x901.kids.e1) ?_))))))
      obtain ⟨c51, hc51, hR⟩ := obind_inv hR; try dsimp only at hR
      try dsimp only at hR
      refine GX.callvx (r' := .tup []) (heap' := [(0, .box [.own 3 6 0 a1.l.length, .own 4 1 0 a1.free.length, .int .i64 a1.root, .int .i64 a1.n]), (1, .box (TPrefix.c a2)), (2, .box [.own 11 3 0 c51.length]), (3, .row 6 96 (a1.l.map TNode.c)), (4, .row 1 3 (a1.free.map c_i64)), (6, .box [.ptr 0 0]), (7, .box [.fn 45 [] [.ptr 6 0, .ptr 1 0, .ptr 2 0, .ptr 7 0]]), (9, .box (TNode.c x901)), (11, .row 3 62 (c51.map TEntry.c))]) (next' := 12) [0, 1, 2, 3, 4, 10, 6, 7] [] rfl rfl rfl rfl rfl rfl (ih x901.kids.e1 a1 a2 c46 _ hc51) (.inl rfl) rfl rfl rfl (GX.done (WK.nil ?_))
      obtain rfl := Option.some.inj hR
      exact RetQ.ret [0, 1, 2, 3, 4, 5, 6, 7, 11] [] (.inl rfl) rfl rfl rfl rfl rfl .refl rfl
    ·rw [hb4]; first | replace hR := cond_t hb4 hR | (try simp only [hb4, bb] at hR)
     iterate 4 refine GX.skip rfl rfl ?_
     refine GX.q (.bool true) (GX.done (WK.condT rfl (WK.sr mixed (GX.q (.fn 45 [] [.ptr 6 0, .ptr 1 0, .ptr 2 0, .ptr 7 0]) (GX.q (.ptr 9 4) (GX.q (.ptr 9 4) (GX.q (.int .i64 x901.kids.e0) ?_)))))))
     obtain ⟨c46, hc46, hR⟩ := obind_inv hR; try dsimp only at hR
     try dsimp only at hR
     refine GX.callvx (r' := .tup []) (heap' := [(0, .box [.own 3 6 0 a1.l.length, .own 4 1 0 a1.free.length, .int .i64 a1.root, .int .i64 a1.n]), (1, .box (TPrefix.c a2)), (2, .box [.own 10 3 0 c46.length]), (3, .row 6 96 (a1.l.map TNode.c)), (4, .row 1 3 (a1.free.map c_i64)), (6, .box [.ptr 0 0]), (7, .box [.fn 45 [] [.ptr 6 0, .ptr 1 0, .ptr 2 0, .ptr 7 0]]), (9, .box (TNode.c x901)), (10, .row 3 62 (c46.map TEntry.c))]) (next' := 11) [0, 1, 2, 3, 4, 8, 6, 7] [] rfl rfl rfl rfl rfl rfl (ih x901.kids.e0 a1 a2 a3 _ hc46) (.inl rfl) rfl rfl rfl (GX.done (WK.regx mixed (GX.q (.fn 45 [] [.ptr 6 0, .ptr 1 0, .ptr 2 0, .ptr 7 0]) (GX.q (.ptr 9 4) (GX.q (.ptr 9 5) (GX.q (.int .i64 x901.kids.e1) ?_))))))
     obtain ⟨c51, hc51, hR⟩ := obind_inv hR; try dsimp only at hR
     try dsimp only at hR
     refine GX.callvx (r' := .tup []) (heap' := [(0, .box [.own 3 6 0 a1.l.length, .own 4 1 0 a1.free.length, .int .i64 a1.root, .int .i64 a1.n]), (1, .box (TPrefix.c a2)), (2, .box [.own 11 3 0 c51.length]), (3, .row 6 96 (a1.l.map TNode.c)), (4, .row 1 3 (a1.free.map c_i64)), (6, .box [.ptr 0 0]), (7, .box [.fn 45 [] [.ptr 6 0, .ptr 1 0, .ptr 2 0, .ptr 7 0]]), (9, .box (TNode.c x901)), (11, .row 3 62 (c51.map TEntry.c))]) (next' := 12) [0, 1, 2, 3, 4, 10, 6, 7] [] rfl rfl rfl rfl rfl rfl (ih x901.kids.e1 a1 a2 c46 _ hc51) (.inl rfl) rfl rfl rfl (GX.done (WK.nil ?_))
     obtain rfl := Option.some.inj hR
     exact RetQ.ret [0, 1, 2, 3, 4, 5, 6, 7, 11] [] (.inl rfl) rfl rfl rfl rfl rfl .refl rfl
   ·rw [hb3]; first | replace hR := cond_t hb3 hR | (try simp only [hb3, bb] at hR)
    refine GX.q (.agg (TPrefix.c a2)) (GX.q (.ptr 9 0) (GX.q (.agg [.int .u32 x901.p.A, .int .i64 x901.p.N]) ?_))
    generalize hc22 : F46_addr_Covers a2 x901.p = c22 at hR
    try dsimp only at hR
    refine GX.callp (r := .bool c22) rfl rfl rfl (f46_ok a2 x901.p _ hc22) rfl rfl (GX.q (.bool c22) (GX.done ?_))
    rcases bool_two (c22) with hb10 | hb10
    ·rw [hb10]; first | replace hR := cond_f hb10 hR | (try simp only [hb10, bb] at hR)
     refine WK.condF rfl (WK.skip (WK.sr mixed (GX.q (.agg (TPrefix.c a2)) (GX.q (.ptr 9 0) (GX.q (.agg [.int .u32 x901.p.A, .int .i64 x901.p.N]) (GX.callp (r := .bool c22) rfl rfl rfl (f46_ok a2 x901.p _ hc22) rfl rfl (GX.pure (v' := .bool false) rfl rfl rfl rfl (congrArg PVal.bool hb10) (GX.q (.ptr 9 0) (GX.q (.agg [.int .u32 x901.p.A, .int .i64 x901.p.N]) (GX.q (.agg (TPrefix.c a2)) ?_))))))))))
     generalize hc40 : F46_addr_Covers x901.p a2 = c40 at hR
     try dsimp only at hR
     refine GX.callp (r := .bool c40) rfl rfl rfl (f46_ok x901.p a2 _ hc40) rfl rfl (GX.q (.bool c40) (GX.done ?_))
     rcases bool_two (c40) with hb11 | hb11
     ·rw [hb11]; first | replace hR := cond_f hb11 hR | (try simp only [hb11, bb] at hR)
      refine WK.condF rfl (WK.skip (WK.nil ?_))
      obtain rfl := Option.some.inj hR
      exact RetQ.ret [0, 1, 2, 3, 4, 5, 6, 7, 8] [] (.inl rfl) rfl rfl rfl rfl rfl .refl rfl
     ·rw [hb11]; first | replace hR := cond_t hb11 hR | (try simp only [hb11, bb] at hR)
      refine WK.condT rfl (WK.sr mixed (GX.q (.fn 45 [] [.ptr 6 0, .ptr 1 0, .ptr 2 0, .ptr 7 0]) (GX.q (.ptr 9 4) (GX.q (.ptr 9 4) (GX.q (.int .i64 x901.kids.e0) ?_)))))
      obtain ⟨c46, hc46, hR⟩ := obind_inv hR; try dsimp only at hR
      try dsimp only at hR
      refine GX.callvx (r' := .tup []) (heap' := [(0, .box [.own 3 6 0 a1.l.length, .own 4 1 0 a1.free.length, .int .i64 a1.root, .int .i64 a1.n]), (1, .box (TPrefix.c a2)), (2, .box [.own 10 3 0 c46.length]), (3, .row 6 96 (a1.l.map TNode.c)), (4, .row 1 3 (a1.free.map c_i64)), (6, .box [.ptr 0 0]), (7, .box [.fn 45 [] [.ptr 6 0, .ptr 1 0, .ptr 2 0, .ptr 7 0]]), (9, .box (TNode.c x901)), (10, .row 3 62 (c46.map TEntry.c))]) (next' := 11) [0, 1, 2, 3, 4, 8, 6, 7] [] rfl rfl rfl rfl rfl rfl (ih x901.kids.e0 a1 a2 a3 _ hc46) (.inl rfl) rfl rfl rfl (GX.done (WK.regx mixed (GX.q (.fn 45 [] [.ptr 6 0, .ptr 1 0, .ptr 2 0, .ptr 7 0]) (GX.q (.ptr 9 4) (GX.q (.ptr 9 5) (GX.q (.int .i64 x901.kids.e1) ?_))))))
      obtain ⟨c51, hc51, hR⟩ := obind_inv hR; try dsimp only at hR
      try dsimp only at hR
      refine GX.callvx (r' := .tup []) (heap' := [(0, .box [.own 3 6 0 a1.l.length, .own 4 1 0 a1.free.length, .int .i64 a1.root, .int .i64 a1.n]), (1, .box (TPrefix.c a2)), (2, .box [.own 11 3 0 c51.length]), (3, .row 6 96 (a1.l.map TNode.c)), (4, .row 1 3 (a1.free.map c_i64)), (6, .box [.ptr 0 0]), (7, .box [.fn 45 [] [.ptr 6 0, .ptr 1 0, .ptr 2 0, .ptr 7 0]]), (9, .box (TNode.c x901)), (11, .row 3 62 (c51.map TEntry.c))]) (next' := 12) [0, 1, 2, 3, 4, 10, 6, 7] [] rfl rfl rfl rfl rfl rfl (ih x901.kids.e1 a1 a2 c46 _ hc51) (.inl rfl) rfl rfl rfl (GX.done (WK.nil ?_))
      obtain rfl := Option.some.inj hR
      exact RetQ.ret [0, 1, 2, 3, 4, 5, 6, 7, 11] [] (.inl rfl) rfl rfl rfl rfl rfl .refl rfl
    ·rw [hb10]; first | replace hR := cond_t hb10 hR | (try simp only [hb10, bb] at hR)
     refine WK.condT rfl (WK.regx mixed (GX.q (.own 8 3 0 a3.length) (GX.q (.ptr 9 0) (GX.q (.agg [.int .u32 x901.p.A, .int .i64 x901.p.N]) (GX.q (.ptr 9 2) (GX.q (.int .i64 x901.v) (GX.q (.agg [.int .u32 x901.p.A, .int .i64 x901.p.N, .int .i64 x901.v]) (GX.step (v' := .own 10 3 0 (([(⟨x901.p, x901.v⟩ : TEntry)] : List TEntry)).length) (heap' := [(0, .box [.own 3 6 0 a1.l.length, .own 4 1 0 a1.free.length, .int .i64 a1.root, .int .i64 a1.n]), (1, .box (TPrefix.c a2)), (2, .box [.own 8 3 0 a3.length]), (3, .row 6 96 (a1.l.map TNode.c)), (4, .row 1 3 (a1.free.map c_i64)), (6, .box [.ptr 0 0]), (7, .box [.fn 45 [] [.ptr 6 0, .ptr 1 0, .ptr 2 0, .ptr 7 0]]), (8, .row 3 62 (a3.map TEntry.c)), (9, .box (TNode.c x901)), (10, .row 3 62 (([(⟨x901.p, x901.v⟩ : TEntry)] : List TEntry).map TEntry.c))]) (next' := 11) rfl rfl rfl rfl rfl rfl rfl ?_))))))))
     rcases bool_two (decide (a3.length < 1099511627776)) with hg14 | hg14
     ·replace hR := cond_f hg14 hR
      cases hR
     replace hR := cond_t hg14 hR; try dsimp only at hR
     have hg14_ := of_decide_eq_true hg14
     refine GX.appT (c := TEntry.c) (L := a3) (X := ([(⟨x901.p, x901.v⟩ : TEntry)] : List TEntry)) (heap' := [(0, .box [.own 3 6 0 a1.l.length, .own 4 1 0 a1.free.length, .int .i64 a1.root, .int .i64 a1.n]), (1, .box (TPrefix.c a2)), (2, .box [.own 8 3 0 a3.length]), (3, .row 6 96 (a1.l.map TNode.c)), (4, .row 1 3 (a1.free.map c_i64)), (6, .box [.ptr 0 0]), (7, .box [.fn 45 [] [.ptr 6 0, .ptr 1 0, .ptr 2 0, .ptr 7 0]]), (9, .box (TNode.c x901)), (10, .row 3 62 (([(⟨x901.p, x901.v⟩ : TEntry)] : List TEntry).map TEntry.c)), (11, .row 3 62 ((a3 ++ ([(⟨x901.p, x901.v⟩ : TEntry)] : List TEntry)).map TEntry.c))]) (next' := 12) rfl rfl rfl rfl (elems_own rfl) (by ((try simp only [List.length_append, List.length_cons, List.length_nil, List.length_map, decide_eq_true_eq, decide_eq_false_iff_not] at *) <;> omega)) (by ((try simp only [List.length_append, List.length_cons, List.length_nil, List.length_map, decide_eq_true_eq, decide_eq_false_iff_not] at *) <;> omega)) rfl rfl rfl rfl (GX.step0 (heap' := [(0, .box [.own 3 6 0 a1.l.length, .own 4 1 0 a1.free.length, .int .i64 a1.root, .int .i64 a1.n]), (1, .box (TPrefix.c a2)), (2, .box [.own 11 3 0 (a3 ++ ([(⟨x901.p, x901.v⟩ : TEntry)] : List TEntry)).length]), (3, .row 6 96 (a1.l.map TNode.c)), (4, .row 1 3 (a1.free.map c_i64)), (6, .box [.ptr 0 0]), (7, .box [.fn 45 [] [.ptr 6 0, .ptr 1 0, .ptr 2 0, .ptr 7 0]]), (9, .box (TNode.c x901)), (10, .row 3 62 (([(⟨x901.p, x901.v⟩ : TEntry)] : List TEntry).map TEntry.c)), (11, .row 3 62 ((a3 ++ ([(⟨x901.p, x901.v⟩ : TEntry)] : List TEntry)).map TEntry.c))]) (next' := 12) rfl rfl rfl rfl rfl (GX.done (WK.sr mixed (GX.q (.agg (TPrefix.c a2)) (GX.q (.ptr 9 0) (GX.q (.agg [.int .u32 x901.p.A, .int .i64 x901.p.N]) (GX.callp (r := .bool c22) rfl rfl rfl (f46_ok a2 x901.p _ hc22) rfl rfl (GX.pure (v' := .bool true) rfl rfl rfl rfl (congrArg PVal.bool hb10) ?_))))))))
     iterate 4 refine GX.skip rfl rfl ?_
     refine GX.q (.bool true) (GX.done (WK.condT rfl (WK.sr mixed (GX.q (.fn 45 [] [.ptr 6 0, .ptr 1 0, .ptr 2 0, .ptr 7 0]) (GX.q (.ptr 9 4) (GX.q (.ptr 9 4) (GX.q (.int .i64 x901.kids.e0) ?_)))))))
     obtain ⟨c46, hc46, hR⟩ := obind_inv hR; try dsimp only at hR
     try dsimp only at hR
     refine GX.callvx (r' := .tup []) (heap' := [(0, .box [.own 3 6 0 a1.l.length, .own 4 1 0 a1.free.length, .int .i64 a1.root, .int .i64 a1.n]), (1, .box (TPrefix.c a2)), (2, .box [.own 12 3 0 c46.length]), (3, .row 6 96 (a1.l.map TNode.c)), (4, .row 1 3 (a1.free.map c_i64)), (6, .box [.ptr 0 0]), (7, .box [.fn 45 [] [.ptr 6 0, .ptr 1 0, .ptr 2 0, .ptr 7 0]]), (9, .box (TNode.c x901)), (10, .row 3 62 (([(⟨x901.p, x901.v⟩ : TEntry)] : List TEntry).map TEntry.c)), (12, .row 3 62 (c46.map TEntry.c))]) (next' := 13) [0, 1, 2, 3, 4, 11, 6, 7] [] rfl rfl rfl rfl rfl rfl (ih x901.kids.e0 a1 a2 (a3 ++ ([(⟨x901.p, x901.v⟩ : TEntry)] : List TEntry)) _ hc46) (.inl rfl) rfl rfl rfl (GX.done (WK.regx mixed (GX.q (.fn 45 [] [.ptr 6 0, .ptr 1 0, .ptr 2 0, .ptr 7 0]) (GX.q (.ptr 9 4) (GX.q (.ptr 9 5) (GX.q (.int .i64 x901.kids.e1) ?_))))))
     obtain ⟨c51, hc51, hR⟩ := obind_inv hR; try dsimp only at hR
     try dsimp only at hR
     refine GX.callvx (r' := .tup []) (heap' := [(0, .box [.own 3 6 0 a1.l.length, .own 4 1 0 a1.free.length, .int .i64 a1.root, .int .i64 a1.n]), (1, .box (TPrefix.c a2)), (2, .box [.own 13 3 0 c51.length]), (3, .row 6 96 (a1.l.map TNode.c)), (4, .row 1 3 (a1.free.map c_i64)), (6, .box [.ptr 0 0]), (7, .box [.fn 45 [] [.ptr 6 0, .ptr 1 0, .ptr 2 0, .ptr 7 0]]), (9, .box (TNode.c x901)), (10, .row 3 62 (([(⟨x901.p, x901.v⟩ : TEntry)] : List TEntry).map TEntry.c)), (13, .row 3 62 (c51.map TEntry.c))]) (next' := 14) [0, 1, 2, 3, 4, 12, 6, 7] [] rfl rfl rfl rfl rfl rfl (ih x901.kids.e1 a1 a2 c46 _ hc51) (.inl rfl) rfl rfl rfl (GX.done (WK.nil ?_))
     obtain rfl := Option.some.inj hR
     exact RetQ.ret [0, 1, 2, 3, 4, 5, 6, 7, 13] [] (.inl rfl) rfl rfl rfl rfl rfl .refl rfl
  ·rw [hb1]; first | replace hR := cond_t hb1 hR | (try simp only [hb1, bb] at hR)
   refine WK.condT rfl (WK.ret ?_)
   obtain rfl := Option.some.inj hR
   exact RetQ.ret [0, 1, 2, 3, 4, 5, 6, 7, 8] [] (.inr rfl) rfl rfl rfl rfl rfl .refl rfl
theorem f29_ok (t0 : TTrie) (p1 : TPrefix) (R : (List TEntry)) (hR : F29_trie_Trie_Below t0 p1 = some R) : FnOk Tryd.prog 29 [.ptr 0 0, .agg (TPrefix.c p1)] [(0, .box [.own 1 6 0 t0.l.length, .own 2 1 0 t0.free.length, .int .i64 t0.root, .int .i64 t0.n]), (1, .row 6 96 (t0.l.map TNode.c)), (2, .row 1 3 (t0.free.map c_i64))] 3 (.ro 3 (R.map TEntry.c)) [(0, .box [.own 1 6 0 t0.l.length, .own 2 1 0 t0.free.length, .int .i64 t0.root, .int .i64 t0.n]), (1, .row 6 96 (t0.l.map TNode.c)), (2, .row 1 3 (t0.free.map c_i64))] 3 := by
 refine FnOk.wk i29 rfl rfl ?_
 unfold F29_trie_Trie_Below at hR
 try dsimp only at hR
 change WK _ _ _ [ac29] _ ⟨[(0, .ptr 0 0), (1, .agg (TPrefix.c p1))], [(0, .box [.own 1 6 0 t0.l.length, .own 2 1 0 t0.free.length, .int .i64 t0.root, .int .i64 t0.n]), (1, .row 6 96 (t0.l.map TNode.c)), (2, .row 1 3 (t0.free.map c_i64))], 3⟩
 unfold ac29
 refine WK.sr mixed (GX.step (v' := .ptr 3 0) (heap' := [(0, .box [.own 1 6 0 t0.l.length, .own 2 1 0 t0.free.length, .int .i64 t0.root, .int .i64 t0.n]), (1, .row 6 96 (t0.l.map TNode.c)), (2, .row 1 3 (t0.free.map c_i64)), (3, .box [.ptr 0 0])]) (next' := 4) rfl rfl rfl rfl rfl rfl rfl (GX.step (v' := .ptr 4 0) (heap' := [(0, .box [.own 1 6 0 t0.l.length, .own 2 1 0 t0.free.length, .int .i64 t0.root, .int .i64 t0.n]), (1, .row 6 96 (t0.l.map TNode.c)), (2, .row 1 3 (t0.free.map c_i64)), (3, .box [.ptr 0 0]), (4, .box (TPrefix.c p1))]) (next' := 5) rfl rfl rfl rfl rfl rfl rfl (GX.m rfl (GX.done (WK.seq (WK.sr mixed (GX.q (.ptr 0 0) (GX.q (.bool false) (GX.m rfl (GX.q (.agg (TPrefix.c p1)) ?_))))))))))
 generalize hc11 : F23_addr_May p1 = c11 at hR
 try dsimp only at hR
 refine GX.callp (r := .bool c11) rfl rfl rfl (f23_ok p1 _ hc11) rfl rfl (GX.q (.bool (!c11)) (GX.q (.bool (!c11)) (GX.done ?_)))
 rcases bool_two (c11) with hb1 | hb1
 ·rw [hb1]; first | replace hR := cond_f hb1 hR | (try simp only [hb1, bb] at hR)
  refine WK.condT rfl (WK.sr mixed (GX.m rfl (GX.done (WK.ret ?_))))
  obtain rfl := Option.some.inj hR
  exact RetQ.ret [0, 1, 2] [] (.inr rfl) rfl rfl rfl rfl rfl .nil rfl
 ·rw [hb1]; first | replace hR := cond_t hb1 hR | (try simp only [hb1, bb] at hR)
  refine WK.condF rfl (WK.skip (WK.sr mixed (GX.step (v' := .ptr 5 0) (heap' := [(0, .box [.own 1 6 0 t0.l.length, .own 2 1 0 t0.free.length, .int .i64 t0.root, .int .i64 t0.n]), (1, .row 6 96 (t0.l.map TNode.c)), (2, .row 1 3 (t0.free.map c_i64)), (3, .box [.ptr 0 0]), (4, .box (TPrefix.c p1)), (5, .box [.nils])]) (next' := 6) rfl rfl rfl rfl rfl rfl rfl (GX.done (WK.sr mixed (GX.step (v' := .ptr 6 0) (heap' := [(0, .box [.own 1 6 0 t0.l.length, .own 2 1 0 t0.free.length, .int .i64 t0.root, .int .i64 t0.n]), (1, .row 6 96 (t0.l.map TNode.c)), (2, .row 1 3 (t0.free.map c_i64)), (3, .box [.ptr 0 0]), (4, .box (TPrefix.c p1)), (5, .box [.nils]), (6, .box [.nilf])]) (next' := 7) rfl rfl rfl rfl rfl rfl rfl (GX.done (WK.sr mixed (GX.q (.fn 45 [] [.ptr 3 0, .ptr 4 0, .ptr 5 0, .ptr 6 0]) (GX.step0 (heap' := [(0, .box [.own 1 6 0 t0.l.length, .own 2 1 0 t0.free.length, .int .i64 t0.root, .int .i64 t0.n]), (1, .row 6 96 (t0.l.map TNode.c)), (2, .row 1 3 (t0.free.map c_i64)), (3, .box [.ptr 0 0]), (4, .box (TPrefix.c p1)), (5, .box [.nils]), (6, .box [.fn 45 [] [.ptr 3 0, .ptr 4 0, .ptr 5 0, .ptr 6 0]])]) (next' := 7) rfl rfl rfl rfl rfl (GX.done (WK.seq (WK.adoptB (id := 5) (j := 0) (sz := 3) (ty := 62) (heap' := [(0, .box [.own 1 6 0 t0.l.length, .own 2 1 0 t0.free.length, .int .i64 t0.root, .int .i64 t0.n]), (1, .row 6 96 (t0.l.map TNode.c)), (2, .row 1 3 (t0.free.map c_i64)), (3, .box [.ptr 0 0]), (4, .box (TPrefix.c p1)), (5, .box [.own 7 3 0 (([] : List TEntry)).length]), (6, .box [.fn 45 [] [.ptr 3 0, .ptr 4 0, .ptr 5 0, .ptr 6 0]]), (7, .row 3 62 (([] : List TEntry).map TEntry.c))]) rfl rfl (by decide) (by simp) rfl ?_)))))))))))))
  refine WK.drawn mixed (RD.q (.fn 45 [] [.ptr 3 0, .ptr 4 0, .ptr 5 0, .ptr 6 0]) (RD.q (.ptr 0 0) (RD.q (.ptr 0 0) (RD.q (.ptr 0 2) (RD.q (.int .i64 t0.root) ?_)))))
  obtain ⟨c20, hc20, hR⟩ := obind_inv hR; try dsimp only at hR
  try dsimp only at hR
  refine RD.callvx (r' := .tup []) (heap' := [(0, .box [.own 1 6 0 t0.l.length, .own 2 1 0 t0.free.length, .int .i64 t0.root, .int .i64 t0.n]), (1, .row 6 96 (t0.l.map TNode.c)), (2, .row 1 3 (t0.free.map c_i64)), (3, .box [.ptr 0 0]), (4, .box (TPrefix.c p1)), (5, .box [.own 8 3 0 c20.length]), (6, .box [.fn 45 [] [.ptr 3 0, .ptr 4 0, .ptr 5 0, .ptr 6 0]]), (8, .row 3 62 (c20.map TEntry.c))]) (next' := 9) [0, 4, 5, 1, 2, 7, 3, 6] [] rfl rfl rfl rfl rfl rfl (f45_ok 100 t0.root t0 p1 ([] : List TEntry) _ hc20) (.inl rfl) rfl rfl rfl (RD.done rfl (WK.sr mixed (GX.q (.own 8 3 0 c20.length) (GX.m rfl (GX.done (WK.ret ?_))))))
  obtain rfl := Option.some.inj hR
  exact RetQ.ret [0, 1, 2] [8] (.inr rfl) rfl rfl rfl rfl (viewGo_cons (view_rowT rfl rfl) viewGo_nil) .refl rfl
theorem f18_ok (t0 : TTrie) (R : (List TEntry)) (hR : F18_trie_Trie_Walk t0 = some R) : FnOk Tryd.prog 18 [.ptr 0 0] [(0, .box [.own 1 6 0 t0.l.length, .own 2 1 0 t0.free.length, .int .i64 t0.root, .int .i64 t0.n]), (1, .row 6 96 (t0.l.map TNode.c)), (2, .row 1 3 (t0.free.map c_i64))] 3 (.ro 3 (R.map TEntry.c)) [(0, .box [.own 1 6 0 t0.l.length, .own 2 1 0 t0.free.length, .int .i64 t0.root, .int .i64 t0.n]), (1, .row 6 96 (t0.l.map TNode.c)), (2, .row 1 3 (t0.free.map c_i64))] 3 := by
 refine FnOk.wk i18 rfl rfl ?_
 unfold F18_trie_Trie_Walk at hR
 try dsimp only at hR
 change WK _ _ _ [ac18] _ ⟨[(0, .ptr 0 0)], [(0, .box [.own 1 6 0 t0.l.length, .own 2 1 0 t0.free.length, .int .i64 t0.root, .int .i64 t0.n]), (1, .row 6 96 (t0.l.map TNode.c)), (2, .row 1 3 (t0.free.map c_i64))], 3⟩
 unfold ac18
 refine WK.sr mixed (GX.m rfl (GX.done (WK.sr mixed (GX.m rfl (GX.q (.agg [.int .u32 0, .int .i64 0]) ?_)))))
 obtain ⟨c5, hc5, hR⟩ := obind_inv hR; try dsimp only at hR
 try dsimp only at hR
 refine GX.callx (r' := .ro 3 (c5.map TEntry.c)) (heap' := [(0, .box [.own 1 6 0 t0.l.length, .own 2 1 0 t0.free.length, .int .i64 t0.root, .int .i64 t0.n]), (1, .row 6 96 (t0.l.map TNode.c)), (2, .row 1 3 (t0.free.map c_i64))]) (next' := 3) [0, 1, 2] [] rfl rfl rfl rfl rfl rfl (f29_ok t0 (⟨0, 0⟩ : TPrefix) _ hc5) (.inl rfl) rfl rfl rfl (GX.m rfl (GX.done (WK.ret ?_)))
 obtain rfl := Option.some.inj hR
 exact RetQ.ret [0, 1, 2] [] (.inr rfl) rfl rfl rfl rfl rfl .refl rfl
theorem f8_ok (f0 : TFib) (l1 : List TCand) (R : Int × Int × TFib) (hR : F8_fib_Fib_Sync f0 l1 = some R) : FnOk Tryd.prog 8 [.ptr 0 0, .ro 10 (l1.map TCand.c)] [(0, .box [.ptr 1 0, .own 4 3 0 f0.sets.length, .mapr 5]), (1, .box [.own 2 6 0 f0.t.l.length, .own 3 1 0 f0.t.free.length, .int .i64 f0.t.root, .int .i64 f0.t.n]), (2, .row 6 96 (f0.t.l.map TNode.c)), (3, .row 1 3 (f0.t.free.map c_i64)), (4, .row 3 68 (f0.sets.map TGroup.c)), (5, .mq f0.atf.1 (f0.atf.2.map (encE (fun y => .int .i64 y))))] 6 (.tup [.int .i64 R.1, .int .i64 R.2.1]) [(0, .box [.ptr 1 0, .own 8 3 0 R.2.2.sets.length, .mapr 5]), (1, .box [.own 6 6 0 R.2.2.t.l.length, .own 7 1 0 R.2.2.t.free.length, .int .i64 R.2.2.t.root, .int .i64 R.2.2.t.n]), (5, .mq R.2.2.atf.1 (R.2.2.atf.2.map (encE (fun y => .int .i64 y)))), (6, .row 6 96 (R.2.2.t.l.map TNode.c)), (7, .row 1 3 (R.2.2.t.free.map c_i64)), (8, .row 3 68 (R.2.2.sets.map TGroup.c))] 9 := by
 refine FnOk.wk i8 rfl rfl ?_
 unfold F8_fib_Fib_Sync at hR
 try dsimp only at hR
 change WK _ _ _ [ac8] _ ⟨[(0, .ptr 0 0), (1, .ro 10 (l1.map TCand.c))], [(0, .box [.ptr 1 0, .own 4 3 0 f0.sets.length, .mapr 5]), (1, .box [.own 2 6 0 f0.t.l.length, .own 3 1 0 f0.t.free.length, .int .i64 f0.t.root, .int .i64 f0.t.n]), (2, .row 6 96 (f0.t.l.map TNode.c)), (3, .row 1 3 (f0.t.free.map c_i64)), (4, .row 3 68 (f0.sets.map TGroup.c)), (5, .mq f0.atf.1 (f0.atf.2.map (encE (fun y => .int .i64 y))))], 6⟩
 unfold ac8
 refine WK.mvB (id := 1) (j := 0) (heap' := [(0, .box [.ptr 1 0, .own 4 3 0 f0.sets.length, .mapr 5]), (1, .box [.own 6 6 0 f0.t.l.length, .own 3 1 0 f0.t.free.length, .int .i64 f0.t.root, .int .i64 f0.t.n]), (3, .row 1 3 (f0.t.free.map c_i64)), (4, .row 3 68 (f0.sets.map TGroup.c)), (5, .mq f0.atf.1 (f0.atf.2.map (encE (fun y => .int .i64 y)))), (6, .row 6 96 (f0.t.l.map TNode.c))]) rfl rfl rfl (by simp) rfl (WK.mvB (id := 1) (j := 1) (heap' := [(0, .box [.ptr 1 0, .own 4 3 0 f0.sets.length, .mapr 5]), (1, .box [.own 6 6 0 f0.t.l.length, .own 7 1 0 f0.t.free.length, .int .i64 f0.t.root, .int .i64 f0.t.n]), (4, .row 3 68 (f0.sets.map TGroup.c)), (5, .mq f0.atf.1 (f0.atf.2.map (encE (fun y => .int .i64 y)))), (6, .row 6 96 (f0.t.l.map TNode.c)), (7, .row 1 3 (f0.t.free.map c_i64))]) rfl rfl rfl (by simp) rfl (WK.mvB (id := 0) (j := 1) (heap' := [(0, .box [.ptr 1 0, .own 8 3 0 f0.sets.length, .mapr 5]), (1, .box [.own 6 6 0 f0.t.l.length, .own 7 1 0 f0.t.free.length, .int .i64 f0.t.root, .int .i64 f0.t.n]), (5, .mq f0.atf.1 (f0.atf.2.map (encE (fun y => .int .i64 y)))), (6, .row 6 96 (f0.t.l.map TNode.c)), (7, .row 1 3 (f0.t.free.map c_i64)), (8, .row 3 68 (f0.sets.map TGroup.c))]) rfl rfl rfl (by simp) rfl (WK.sr mixed (GX.m rfl (GX.m rfl (GX.done (WK.seq (WK.sr mixed (GX.m rfl (GX.q (.bool false) (GX.done (WK.condF rfl (WK.skip ?_)))))))))))))
 refine WK.sr mixed (GX.step (v' := .mapr 9) (heap' := [(0, .box [.ptr 1 0, .own 8 3 0 f0.sets.length, .mapr 5]), (1, .box [.own 6 6 0 f0.t.l.length, .own 7 1 0 f0.t.free.length, .int .i64 f0.t.root, .int .i64 f0.t.n]), (5, .mq f0.atf.1 (f0.atf.2.map (encE (fun y => .int .i64 y)))), (6, .row 6 96 (f0.t.l.map TNode.c)), (7, .row 1 3 (f0.t.free.map c_i64)), (8, .row 3 68 (f0.sets.map TGroup.c)), (9, .mp (([] : List (TPrefix × Bool)).map (encQ (fun k => .agg (TPrefix.c k)) (fun y => .bool y))))]) (next' := 10) rfl rfl rfl rfl rfl rfl rfl (GX.m rfl (GX.done (WK.seq (WK.sr mixed (GX.m rfl (GX.pure (v' := .int .i64 (l1.length : Int)) rfl rfl rfl rfl (len_map _ _) (GX.m rfl (GX.done ?_)))))))))
 refine WK.len (t := 1) rfl (by simp) (fun hlen_57 => ?_)
 rw [List.length_map] at hlen_57
 generalize hZ_57 : F8_fib_Fib_Sync_l5 ([] : List (TPrefix × Bool)) l1 = Z_57 at hR
 refine WK.forK (fun k s => ∃ (i20 : Nat) (stays6 : List (TPrefix × Bool)), i20 ≤ l1.length ∧ k = l1.length - i20 ∧ F8_fib_Fib_Sync_l5 stays6 (l1.drop i20) = Z_57 ∧ s = ⟨[(0, .ptr 0 0), (1, .ro 10 (l1.map TCand.c)), (6, .mapr 9), (18, .ro 10 (l1.map TCand.c)), (19, .int .i64 (l1.length : Int)), (20, .int .i64 (i20 : Int))], [(0, .box [.ptr 1 0, .own 6 3 0 f0.sets.length, .mapr 5]), (1, .box [.own 7 6 0 f0.t.l.length, .own 8 1 0 f0.t.free.length, .int .i64 f0.t.root, .int .i64 f0.t.n]), (5, .mq f0.atf.1 (f0.atf.2.map (encE (fun y => .int .i64 y)))), (6, .row 3 68 (f0.sets.map TGroup.c)), (7, .row 6 96 (f0.t.l.map TNode.c)), (8, .row 1 3 (f0.t.free.map c_i64)), (9, .mp (stays6.map (encQ (fun k => .agg (TPrefix.c k)) (fun y => .bool y))))], 10⟩) l1.length (by refine ⟨_, ?_, 0, ([] : List (TPrefix × Bool)), (by omega), rfl, hZ_57, rfl⟩; exact Conv.keepR [0, 1, 2, 3, 4, 5, 8, 6, 7, 9] [] [0, 1, 6, 18, 19, 20] rfl rfl (viewE_cons rfl rfl (viewE_cons rfl rfl (viewE_cons rfl rfl (viewE_cons rfl rfl (viewE_cons rfl rfl (viewE_cons rfl rfl viewE_nil)))))) rfl rfl) ?_
 rintro _ _ ⟨i20, stays6, hi_57, rfl, hL_57, rfl⟩ again_57 out_57 Q_57 hagain_57 hout_57 hQ_57
 refine WK.sr mixed (GX.q (.bool (decide ((i20 : Int) < (l1.length : Int)))) (GX.done (WK.seq ?_)))
 rcases bool_two (decide ((i20 : Int) < (l1.length : Int))) with hb58 | hb58
 ·rw [hb58]
  rw [drop_end hb58, F8_fib_Fib_Sync_l5] at hL_57
  refine WK.condF rfl (WK.exit ?_)
  refine QF.exit (hout_57 _ ?_)
  subst hL_57
  replace hR := obind_s hR; try dsimp only at hR
  refine WK.sr mixed (GX.m rfl (GX.m rfl (GX.done (WK.seq (WK.sr mixed (GX.m rfl (GX.q (.ptr 0 0) (GX.q (.ptr 0 0) (GX.q (.ptr 1 0) ?_)))))))))
  obtain ⟨c32, hc32, hR⟩ := obind_inv hR; try dsimp only at hR
  try dsimp only at hR
  refine GX.callx (r' := .ro 3 (c32.map TEntry.c)) (heap' := [(0, .box [.ptr 1 0, .own 6 3 0 f0.sets.length, .mapr 5]), (1, .box [.own 7 6 0 f0.t.l.length, .own 8 1 0 f0.t.free.length, .int .i64 f0.t.root, .int .i64 f0.t.n]), (5, .mq f0.atf.1 (f0.atf.2.map (encE (fun y => .int .i64 y)))), (6, .row 3 68 (f0.sets.map TGroup.c)), (7, .row 6 96 (f0.t.l.map TNode.c)), (8, .row 1 3 (f0.t.free.map c_i64)), (9, .mp (stays6.map (encQ (fun k => .agg (TPrefix.c k)) (fun y => .bool y))))]) (next' := 10) [1, 7, 8] [] rfl rfl rfl rfl rfl rfl (f18_ok f0.t _ hc32) (.inl rfl) rfl rfl rfl (GX.pure (v' := .int .i64 (c32.length : Int)) rfl rfl rfl rfl (len_map _ _) (GX.m rfl (GX.done ?_)))
  refine WK.len (t := 32) rfl (by simp) (fun hlen_86 => ?_)
  rw [List.length_map] at hlen_86
  generalize hZ_86 : F8_fib_Fib_Sync_l4 stays6 0 f0.t.root f0.t.n f0.atf f0.sets f0.t.l f0.t.free c32 = Z_86 at hR
  refine WK.forK (fun k s => ∃ (i34 : Nat) (out9 : Int) (box_2_1 : Int) (box_3_1 : Int) (map5 : QMap Int) (row6 : List TGroup) (row7 : List TNode) (row8 : List Int), i34 ≤ c32.length ∧ k = c32.length - i34 ∧ F8_fib_Fib_Sync_l4 stays6 out9 box_2_1 box_3_1 map5 row6 row7 row8 (c32.drop i34) = Z_86 ∧ s = ⟨[(0, .ptr 0 0), (1, .ro 10 (l1.map TCand.c)), (6, .mapr 9), (9, .int .i64 out9), (10, .int .i64 0), (32, .ro 3 (c32.map TEntry.c)), (33, .int .i64 (c32.length : Int)), (34, .int .i64 (i34 : Int))], [(0, .box [.ptr 1 0, .own 6 3 0 row6.length, .mapr 5]), (1, .box [.own 7 6 0 row7.length, .own 8 1 0 row8.length, .int .i64 box_2_1, .int .i64 box_3_1]), (5, .mq map5.1 (map5.2.map (encE (fun y => .int .i64 y)))), (6, .row 3 68 (row6.map TGroup.c)), (7, .row 6 96 (row7.map TNode.c)), (8, .row 1 3 (row8.map c_i64)), (9, .mp (stays6.map (encQ (fun k => .agg (TPrefix.c k)) (fun y => .bool y))))], 10⟩) c32.length (by refine ⟨_, ?_, 0, 0, f0.t.root, f0.t.n, f0.atf, f0.sets, f0.t.l, f0.t.free, (by omega), rfl, hZ_86, rfl⟩; exact Conv.keepR [0, 1, 2, 3, 4, 5, 6, 7, 8, 9] [] [0, 1, 6, 9, 10, 32, 33, 34] rfl rfl (viewE_cons rfl rfl (viewE_cons rfl rfl (viewE_cons rfl rfl (viewE_cons rfl rfl (viewE_cons rfl rfl (viewE_cons rfl rfl (viewE_cons rfl rfl (viewE_cons rfl rfl viewE_nil)))))))) rfl rfl) ?_
  rintro _ _ ⟨i34, out9, box_2_1, box_3_1, map5, row6, row7, row8, hi_86, rfl, hL_86, rfl⟩ again_86 out_86 Q_86 hagain_86 hout_86 hQ_86
  refine WK.sr mixed (GX.q (.bool (decide ((i34 : Int) < (c32.length : Int)))) (GX.done (WK.seq ?_)))
  rcases bool_two (decide ((i34 : Int) < (c32.length : Int))) with hb87 | hb87
  ·rw [hb87]
   rw [drop_end hb87, F8_fib_Fib_Sync_l4] at hL_86
   refine WK.condF rfl (WK.exit ?_)
   refine QF.exit (hout_86 _ ?_)
   subst hL_86
   replace hR := obind_s hR; try dsimp only at hR
   refine WK.seq (WK.sr mixed (GX.m rfl (GX.pure (v' := .int .i64 (l1.length : Int)) rfl rfl rfl rfl (len_map _ _) (GX.m rfl (GX.done ?_)))))
   refine WK.len (t := 1) rfl (by simp) (fun hlen_102 => ?_)
   rw [List.length_map] at hlen_102
   generalize hZ_102 : F8_fib_Fib_Sync_l2 0 box_2_1 box_3_1 map5 row6 row7 row8 l1 = Z_102 at hR
   refine WK.forK (fun k s => ∃ (i52 : Nat) (set10 : Int) (box_2_1x : Int) (box_3_1x : Int) (map5x : QMap Int) (row6x : List TGroup) (row7x : List TNode) (row8x : List Int), i52 ≤ l1.length ∧ k = l1.length - i52 ∧ F8_fib_Fib_Sync_l2 set10 box_2_1x box_3_1x map5x row6x row7x row8x (l1.drop i52) = Z_102 ∧ s = ⟨[(0, .ptr 0 0), (9, .int .i64 out9), (10, .int .i64 set10), (50, .ro 10 (l1.map TCand.c)), (51, .int .i64 (l1.length : Int)), (52, .int .i64 (i52 : Int))], [(0, .box [.ptr 1 0, .own 6 3 0 row6x.length, .mapr 5]), (1, .box [.own 7 6 0 row7x.length, .own 8 1 0 row8x.length, .int .i64 box_2_1x, .int .i64 box_3_1x]), (5, .mq map5x.1 (map5x.2.map (encE (fun y => .int .i64 y)))), (6, .row 3 68 (row6x.map TGroup.c)), (7, .row 6 96 (row7x.map TNode.c)), (8, .row 1 3 (row8x.map c_i64))], 9⟩) l1.length (by refine ⟨_, ?_, 0, 0, box_2_1, box_3_1, map5, row6, row7, row8, (by omega), rfl, hZ_102, rfl⟩; exact Conv.keepR [0, 1, 2, 3, 4, 5, 6, 7, 8] [] [0, 9, 10, 50, 51, 52] rfl rfl (viewE_cons rfl rfl (viewE_cons rfl rfl (viewE_cons rfl rfl (viewE_cons rfl rfl (viewE_cons rfl rfl (viewE_cons rfl rfl viewE_nil)))))) rfl rfl) ?_
   rintro _ _ ⟨i52, set10, box_2_1x, box_3_1x, map5x, row6x, row7x, row8x, hi_102, rfl, hL_102, rfl⟩ again_102 out_102 Q_102 hagain_102 hout_102 hQ_102
   refine WK.sr mixed (GX.q (.bool (decide ((i52 : Int) < (l1.length : Int)))) (GX.done (WK.seq ?_)))
   rcases bool_two (decide ((i52 : Int) < (l1.length : Int))) with hb103 | hb103
   ·rw [hb103]
    rw [drop_end hb103, F8_fib_Fib_Sync_l2] at hL_102
    refine WK.condF rfl (WK.exit ?_)
    refine QF.exit (hout_102 _ ?_)
    subst hL_102
    replace hR := obind_s hR; try dsimp only at hR
    refine WK.sr mixed ?_
    iterate 4 refine GX.m rfl ?_
    refine GX.done (WK.ret ?_)
    obtain rfl := Option.some.inj hR
    exact RetQ.ret [0, 1, 2, 3, 4, 5, 7, 8, 6] [] (.inr rfl) rfl rfl rfl rfl rfl .refl rfl
   ·rw [hb103]
    obtain ⟨x52, hx102, hd102, hlt102⟩ := drop_more hb103
    rw [hd102, F8_fib_Fib_Sync_l2] at hL_102
    refine WK.condT rfl (WK.skip (WK.seq ?_))
    refine WK.blockK (fun _ hK104 => ?_)
    refine WK.sr mixed (GX.idxT (c := TCand.c) (x := x52) rfl rfl rfl (Int.natCast_nonneg _) hx102 (GX.q (.agg (TCand.c x52)) (GX.step (v' := .ptr 9 0) (heap' := [(0, .box [.ptr 1 0, .own 6 3 0 row6x.length, .mapr 5]), (1, .box [.own 7 6 0 row7x.length, .own 8 1 0 row8x.length, .int .i64 box_2_1x, .int .i64 box_3_1x]), (5, .mq map5x.1 (map5x.2.map (encE (fun y => .int .i64 y)))), (6, .row 3 68 (row6x.map TGroup.c)), (7, .row 6 96 (row7x.map TNode.c)), (8, .row 1 3 (row8x.map c_i64)), (9, .box [.int .u32 0, .int .i64 0, .int .i64 0, .int .i64 0, .int .i64 0, .int .i64 0, .int .u32 0, .bool false, .int .i64 0, .nils])]) (next' := 10) rfl rfl rfl rfl rfl rfl rfl (GX.step0 (heap' := [(0, .box [.ptr 1 0, .own 6 3 0 row6x.length, .mapr 5]), (1, .box [.own 7 6 0 row7x.length, .own 8 1 0 row8x.length, .int .i64 box_2_1x, .int .i64 box_3_1x]), (5, .mq map5x.1 (map5x.2.map (encE (fun y => .int .i64 y)))), (6, .row 3 68 (row6x.map TGroup.c)), (7, .row 6 96 (row7x.map TNode.c)), (8, .row 1 3 (row8x.map c_i64)), (9, .box (TCand.c x52))]) (next' := 10) rfl rfl rfl rfl rfl (GX.done (WK.seq (WK.drawn mixed (RD.m rfl (RD.q (.ptr 9 0) (RD.q (.agg [.int .u32 x52.P.A, .int .i64 x52.P.N]) (RD.q (.ptr 9 9) (RD.q (.ro 2 (x52.Hops.map THop.c)) ?_))))))))))))
    rcases obind_cases hL_102 with ⟨_, hL_102⟩ | ⟨c61, hc61, hL_102⟩
    ·subst hL_102
     first | replace hR := obind_n hR | replace hR := oexc_n hR
     cases hR
    try dsimp only at hL_102
    try dsimp only at hL_102
    refine RD.callp (r := .ro 2 (c61.map THop.c)) rfl rfl rfl (f20_ok x52.Hops _ hc61) rfl rfl ?_
    rcases obind_cases hL_102 with ⟨_, hL_102⟩ | ⟨c62, hc62, hL_102⟩
    ·subst hL_102
     first | replace hR := obind_n hR | replace hR := oexc_n hR
     cases hR
    try dsimp only at hL_102
    try dsimp only at hL_102
    refine RD.callx (r' := .bool c62) (heap' := [(0, .box [.ptr 1 0, .own 6 3 0 row6x.length, .mapr 5]), (1, .box [.own 7 6 0 row7x.length, .own 8 1 0 row8x.length, .int .i64 box_2_1x, .int .i64 box_3_1x]), (5, .mq map5x.1 (map5x.2.map (encE (fun y => .int .i64 y)))), (6, .row 3 68 (row6x.map TGroup.c)), (7, .row 6 96 (row7x.map TNode.c)), (8, .row 1 3 (row8x.map c_i64)), (9, .box (TCand.c x52))]) (next' := 10) [0, 1, 7, 8, 6, 5] [] rfl rfl rfl rfl rfl rfl (f19_ok (⟨(⟨row7x, row8x, box_2_1x, box_3_1x⟩ : TTrie), row6x, map5x⟩ : TFib) x52.P c61 _ hc62) (.inl rfl) rfl rfl rfl (RD.q (.bool (!c62)) (RD.m rfl ?_))
    rcases bool_two (c62) with hb106 | hb106
    ·rw [hb106]; try simp only [hb106, bb] at hL_102
     refine RD.m rfl (RD.q (.ptr 9 0) (RD.q (.agg [.int .u32 x52.P.A, .int .i64 x52.P.N]) (RD.q (.ptr 9 9) (RD.q (.ro 2 (x52.Hops.map THop.c)) ?_))))
     rcases obind_cases hL_102 with ⟨_, hL_102⟩ | ⟨c70, hc70, hL_102⟩
     ·subst hL_102
      first | replace hR := obind_n hR | replace hR := oexc_n hR
      cases hR
     try dsimp only at hL_102
     refine RD.callx (r' := .int .i64 c70.1) (heap' := [(0, .box [.ptr 1 0, .own 12 3 0 c70.2.sets.length, .mapr 5]), (1, .box [.own 10 6 0 c70.2.t.l.length, .own 11 1 0 c70.2.t.free.length, .int .i64 c70.2.t.root, .int .i64 c70.2.t.n]), (5, .mq c70.2.atf.1 (c70.2.atf.2.map (encE (fun y => .int .i64 y)))), (9, .box (TCand.c x52)), (12, .row 3 68 (c70.2.sets.map TGroup.c)), (11, .row 1 3 (c70.2.t.free.map c_i64)), (10, .row 6 96 (c70.2.t.l.map TNode.c))]) (next' := 13) [0, 1, 7, 8, 6, 5] [] rfl rfl rfl rfl rfl rfl (f14_ok (⟨(⟨row7x, row8x, box_2_1x, box_3_1x⟩ : TTrie), row6x, map5x⟩ : TFib) x52.P x52.Hops _ hc70) (.inl rfl) rfl rfl rfl ?_
     iterate 2 refine RD.q (.bool (decide (c70.1 = 0))) ?_
     refine RD.done rfl ?_
     rcases bool_two (decide (c70.1 = 0)) with hb108 | hb108
     ·rw [hb108]; try simp only [hb108, bb] at hL_102
      refine WK.condF rfl (WK.skip ?_)
      refine WK.nil (QF.normal (hK104 _ ?_))
      refine WK.regx mixed (GX.pure (v' := .int .i64 ((i52 + 1 : Nat) : Int)) rfl rfl rfl rfl (congrArg (PVal.int .i64) (wrap_up hlt102 hlen_102)) (GX.m rfl (GX.done ?_)))
      refine WK.nil (QF.normal ?_)
      refine hagain_102 _ (l1.length - (i52 + 1)) _ (by omega) ?_ ⟨i52 + 1, set10, c70.2.t.root, c70.2.t.n, c70.2.atf, c70.2.sets, c70.2.t.l, c70.2.t.free, (by omega), rfl, hL_102, rfl⟩
      exact Conv.keepR [0, 1, 2, 3, 4, 5, 12, 10, 11] [] [0, 9, 10, 50, 51, 52] rfl rfl (viewE_cons rfl rfl (viewE_cons rfl rfl (viewE_cons rfl rfl (viewE_cons rfl rfl (viewE_cons rfl rfl (viewE_cons rfl rfl viewE_nil)))))) rfl rfl
     ·rw [hb108]; try simp only [hb108, bb] at hL_102
      refine WK.condT rfl (WK.regx mixed (GX.m rfl (GX.q (.int .i64 (IntKind.i64.wrap (set10 + 1))) (GX.m rfl (GX.done ?_)))))
      refine WK.nil (QF.normal (hK104 _ ?_))
      refine WK.regx mixed (GX.pure (v' := .int .i64 ((i52 + 1 : Nat) : Int)) rfl rfl rfl rfl (congrArg (PVal.int .i64) (wrap_up hlt102 hlen_102)) (GX.m rfl (GX.done ?_)))
      refine WK.nil (QF.normal ?_)
      refine hagain_102 _ (l1.length - (i52 + 1)) _ (by omega) ?_ ⟨i52 + 1, (IntKind.i64.wrap (set10 + 1)), c70.2.t.root, c70.2.t.n, c70.2.atf, c70.2.sets, c70.2.t.l, c70.2.t.free, (by omega), rfl, hL_102, rfl⟩
      exact Conv.keepR [0, 1, 2, 3, 4, 5, 12, 10, 11] [] [0, 9, 10, 50, 51, 52] rfl rfl (viewE_cons rfl rfl (viewE_cons rfl rfl (viewE_cons rfl rfl (viewE_cons rfl rfl (viewE_cons rfl rfl (viewE_cons rfl rfl viewE_nil)))))) rfl rfl
    ·rw [hb106]; try simp only [hb106, bb] at hL_102
     iterate 7 refine RD.skip rfl rfl ?_
     refine RD.q (.bool false) (RD.done rfl (WK.condF rfl (WK.skip ?_)))
     refine WK.nil (QF.normal (hK104 _ ?_))
     refine WK.regx mixed (GX.pure (v' := .int .i64 ((i52 + 1 : Nat) : Int)) rfl rfl rfl rfl (congrArg (PVal.int .i64) (wrap_up hlt102 hlen_102)) (GX.m rfl (GX.done ?_)))
     refine WK.nil (QF.normal ?_)
     refine hagain_102 _ (l1.length - (i52 + 1)) _ (by omega) ?_ ⟨i52 + 1, set10, box_2_1x, box_3_1x, map5x, row6x, row7x, row8x, (by omega), rfl, hL_102, rfl⟩
     exact Conv.keepR [0, 1, 2, 3, 4, 5, 6, 7, 8] [] [0, 9, 10, 50, 51, 52] rfl rfl (viewE_cons rfl rfl (viewE_cons rfl rfl (viewE_cons rfl rfl (viewE_cons rfl rfl (viewE_cons rfl rfl (viewE_cons rfl rfl viewE_nil)))))) rfl rfl
  ·rw [hb87]
   obtain ⟨x34, hx86, hd86, hlt86⟩ := drop_more hb87
   rw [hd86, F8_fib_Fib_Sync_l4] at hL_86
   refine WK.condT rfl (WK.skip (WK.seq ?_))
   refine WK.blockK (fun _ hK109 => ?_)
   refine WK.sr mixed (GX.idxT (c := TEntry.c) (x := x34) rfl rfl rfl (Int.natCast_nonneg _) hx86 (GX.q (.agg (TEntry.c x34)) (GX.step (v' := .ptr 10 0) (heap' := [(0, .box [.ptr 1 0, .own 6 3 0 row6.length, .mapr 5]), (1, .box [.own 7 6 0 row7.length, .own 8 1 0 row8.length, .int .i64 box_2_1, .int .i64 box_3_1]), (5, .mq map5.1 (map5.2.map (encE (fun y => .int .i64 y)))), (6, .row 3 68 (row6.map TGroup.c)), (7, .row 6 96 (row7.map TNode.c)), (8, .row 1 3 (row8.map c_i64)), (9, .mp (stays6.map (encQ (fun k => .agg (TPrefix.c k)) (fun y => .bool y)))), (10, .box [.int .u32 0, .int .i64 0, .int .i64 0])]) (next' := 11) rfl rfl rfl rfl rfl rfl rfl (GX.step0 (heap' := [(0, .box [.ptr 1 0, .own 6 3 0 row6.length, .mapr 5]), (1, .box [.own 7 6 0 row7.length, .own 8 1 0 row8.length, .int .i64 box_2_1, .int .i64 box_3_1]), (5, .mq map5.1 (map5.2.map (encE (fun y => .int .i64 y)))), (6, .row 3 68 (row6.map TGroup.c)), (7, .row 6 96 (row7.map TNode.c)), (8, .row 1 3 (row8.map c_i64)), (9, .mp (stays6.map (encQ (fun k => .agg (TPrefix.c k)) (fun y => .bool y)))), (10, .box (TEntry.c x34))]) (next' := 11) rfl rfl rfl rfl rfl (GX.done (WK.sr mixed (GX.m rfl (GX.q (.ptr 10 0) (GX.q (.agg [.int .u32 x34.P.A, .int .i64 x34.P.N]) (GX.pure (v' := .bool ((findQ (fun (a b : TPrefix) => (decide (a.A = b.A) && (decide (a.N = b.N) && true))) stays6 x34.P).getD false)) rfl rfl rfl (core_lookF (kc := TPrefix.c) (eq := (fun (a b : TPrefix) => (decide (a.A = b.A) && (decide (a.N = b.N) && true)))) (e := (fun y => .bool y)) (q := x34.P) (z0 := false) (fun _ _ => rfl) rfl rfl) rfl (GX.q (.bool (!((findQ (fun (a b : TPrefix) => (decide (a.A = b.A) && (decide (a.N = b.N) && true))) stays6 x34.P).getD false))) (GX.done ?_))))))))))))
   rcases bool_two ((findQ (fun (a b : TPrefix) => (decide (a.A = b.A) && (decide (a.N = b.N) && true))) stays6 x34.P).getD false) with hb110 | hb110
   ·rw [hb110]; try simp only [hb110, bb] at hL_86
    refine WK.condT rfl (WK.sr mixed (GX.m rfl (GX.q (.ptr 10 0) (GX.q (.agg [.int .u32 x34.P.A, .int .i64 x34.P.N]) ?_))))
    rcases obind_cases hL_86 with ⟨_, hL_86⟩ | ⟨c46, hc46, hL_86⟩
    ·subst hL_86
     first | replace hR := obind_n hR | replace hR := oexc_n hR
     cases hR
    try dsimp only at hL_86
    refine GX.callx (r' := .bool c46.1) (heap' := [(0, .box [.ptr 1 0, .own 13 3 0 c46.2.sets.length, .mapr 5]), (1, .box [.own 11 6 0 c46.2.t.l.length, .own 12 1 0 c46.2.t.free.length, .int .i64 c46.2.t.root, .int .i64 c46.2.t.n]), (5, .mq c46.2.atf.1 (c46.2.atf.2.map (encE (fun y => .int .i64 y)))), (9, .mp (stays6.map (encQ (fun k => .agg (TPrefix.c k)) (fun y => .bool y)))), (10, .box (TEntry.c x34)), (13, .row 3 68 (c46.2.sets.map TGroup.c)), (12, .row 1 3 (c46.2.t.free.map c_i64)), (11, .row 6 96 (c46.2.t.l.map TNode.c))]) (next' := 14) [0, 1, 7, 8, 6, 5] [] rfl rfl rfl rfl rfl rfl (f15_ok (⟨(⟨row7, row8, box_2_1, box_3_1⟩ : TTrie), row6, map5⟩ : TFib) x34.P _ hc46) (.inl rfl) rfl rfl rfl (GX.done (WK.regx mixed (GX.m rfl (GX.q (.int .i64 (IntKind.i64.wrap (out9 + 1))) (GX.m rfl (GX.done ?_))))))
    refine WK.nil (QF.normal (hK109 _ ?_))
    refine WK.regx mixed (GX.pure (v' := .int .i64 ((i34 + 1 : Nat) : Int)) rfl rfl rfl rfl (congrArg (PVal.int .i64) (wrap_up hlt86 hlen_86)) (GX.m rfl (GX.done ?_)))
    refine WK.nil (QF.normal ?_)
    refine hagain_86 _ (c32.length - (i34 + 1)) _ (by omega) ?_ ⟨i34 + 1, (IntKind.i64.wrap (out9 + 1)), c46.2.t.root, c46.2.t.n, c46.2.atf, c46.2.sets, c46.2.t.l, c46.2.t.free, (by omega), rfl, hL_86, rfl⟩
    exact Conv.keepR [0, 1, 2, 3, 4, 5, 13, 11, 12, 9] [] [0, 1, 6, 9, 10, 32, 33, 34] rfl rfl (viewE_cons rfl rfl (viewE_cons rfl rfl (viewE_cons rfl rfl (viewE_cons rfl rfl (viewE_cons rfl rfl (viewE_cons rfl rfl (viewE_cons rfl rfl (viewE_cons rfl rfl viewE_nil)))))))) rfl rfl
   ·rw [hb110]; try simp only [hb110, bb] at hL_86
    refine WK.condF rfl (WK.skip ?_)
    refine WK.nil (QF.normal (hK109 _ ?_))
    refine WK.regx mixed (GX.pure (v' := .int .i64 ((i34 + 1 : Nat) : Int)) rfl rfl rfl rfl (congrArg (PVal.int .i64) (wrap_up hlt86 hlen_86)) (GX.m rfl (GX.done ?_)))
    refine WK.nil (QF.normal ?_)
    refine hagain_86 _ (c32.length - (i34 + 1)) _ (by omega) ?_ ⟨i34 + 1, out9, box_2_1, box_3_1, map5, row6, row7, row8, (by omega), rfl, hL_86, rfl⟩
    exact Conv.keepR [0, 1, 2, 3, 4, 5, 6, 7, 8, 9] [] [0, 1, 6, 9, 10, 32, 33, 34] rfl rfl (viewE_cons rfl rfl (viewE_cons rfl rfl (viewE_cons rfl rfl (viewE_cons rfl rfl (viewE_cons rfl rfl (viewE_cons rfl rfl (viewE_cons rfl rfl (viewE_cons rfl rfl viewE_nil)))))))) rfl rfl
 ·rw [hb58]
  obtain ⟨x20, hx57, hd57, hlt57⟩ := drop_more hb58
  rw [hd57, F8_fib_Fib_Sync_l5] at hL_57
  refine WK.condT rfl (WK.skip (WK.seq ?_))
  refine WK.blockK (fun _ hK112 => ?_)
  refine WK.sr mixed (GX.idxT (c := TCand.c) (x := x20) rfl rfl rfl (Int.natCast_nonneg _) hx57 (GX.q (.agg (TCand.c x20)) (GX.step (v' := .ptr 10 0) (heap' := [(0, .box [.ptr 1 0, .own 6 3 0 f0.sets.length, .mapr 5]), (1, .box [.own 7 6 0 f0.t.l.length, .own 8 1 0 f0.t.free.length, .int .i64 f0.t.root, .int .i64 f0.t.n]), (5, .mq f0.atf.1 (f0.atf.2.map (encE (fun y => .int .i64 y)))), (6, .row 3 68 (f0.sets.map TGroup.c)), (7, .row 6 96 (f0.t.l.map TNode.c)), (8, .row 1 3 (f0.t.free.map c_i64)), (9, .mp (stays6.map (encQ (fun k => .agg (TPrefix.c k)) (fun y => .bool y)))), (10, .box [.int .u32 0, .int .i64 0, .int .i64 0, .int .i64 0, .int .i64 0, .int .i64 0, .int .u32 0, .bool false, .int .i64 0, .nils])]) (next' := 11) rfl rfl rfl rfl rfl rfl rfl (GX.step0 (heap' := [(0, .box [.ptr 1 0, .own 6 3 0 f0.sets.length, .mapr 5]), (1, .box [.own 7 6 0 f0.t.l.length, .own 8 1 0 f0.t.free.length, .int .i64 f0.t.root, .int .i64 f0.t.n]), (5, .mq f0.atf.1 (f0.atf.2.map (encE (fun y => .int .i64 y)))), (6, .row 3 68 (f0.sets.map TGroup.c)), (7, .row 6 96 (f0.t.l.map TNode.c)), (8, .row 1 3 (f0.t.free.map c_i64)), (9, .mp (stays6.map (encQ (fun k => .agg (TPrefix.c k)) (fun y => .bool y)))), (10, .box (TCand.c x20))]) (next' := 11) rfl rfl rfl rfl rfl (GX.done (WK.regx mixed (GX.m rfl (GX.q (.ptr 10 0) (GX.q (.agg [.int .u32 x20.P.A, .int .i64 x20.P.N]) (GX.step0 (heap' := [(0, .box [.ptr 1 0, .own 6 3 0 f0.sets.length, .mapr 5]), (1, .box [.own 7 6 0 f0.t.l.length, .own 8 1 0 f0.t.free.length, .int .i64 f0.t.root, .int .i64 f0.t.n]), (5, .mq f0.atf.1 (f0.atf.2.map (encE (fun y => .int .i64 y)))), (6, .row 3 68 (f0.sets.map TGroup.c)), (7, .row 6 96 (f0.t.l.map TNode.c)), (8, .row 1 3 (f0.t.free.map c_i64)), (9, .mp ((setQ (fun (a b : TPrefix) => (decide (a.A = b.A) && (decide (a.N = b.N) && true))) stays6 x20.P true).map (encQ (fun k => .agg (TPrefix.c k)) (fun y => .bool y)))), (10, .box (TCand.c x20))]) (next' := 11) rfl rfl (core_msetF (kc := TPrefix.c) (eq := (fun (a b : TPrefix) => (decide (a.A = b.A) && (decide (a.N = b.N) && true)))) (e := (fun y => .bool y)) (q := x20.P) (y0 := true) (fun _ _ => rfl) rfl rfl rfl) rfl rfl (GX.done ?_)))))))))))
  refine WK.nil (QF.normal (hK112 _ ?_))
  refine WK.regx mixed (GX.pure (v' := .int .i64 ((i20 + 1 : Nat) : Int)) rfl rfl rfl rfl (congrArg (PVal.int .i64) (wrap_up hlt57 hlen_57)) (GX.m rfl (GX.done ?_)))
  refine WK.nil (QF.normal ?_)
  refine hagain_57 _ (l1.length - (i20 + 1)) _ (by omega) ?_ ⟨i20 + 1, (setQ (fun (a b : TPrefix) => (decide (a.A = b.A) && (decide (a.N = b.N) && true))) stays6 x20.P true), (by omega), rfl, hL_57, rfl⟩
  exact Conv.keepR [0, 1, 2, 3, 4, 5, 6, 7, 8, 9] [] [0, 1, 6, 18, 19, 20] rfl rfl (viewE_cons rfl rfl (viewE_cons rfl rfl (viewE_cons rfl rfl (viewE_cons rfl rfl (viewE_cons rfl rfl (viewE_cons rfl rfl viewE_nil)))))) rfl rfl
theorem f10_ok (a0 : List THop) (b1 : List THop) (R : Bool) (hR : F10_crossroadsref25_Hops a0 b1 = some R) : FnOk Tryd.prog 10 [.ro 2 (a0.map THop.c), .ro 2 (b1.map THop.c)] [] 0 (.bool R) [] 0 := by
 refine FnOk.wk i10 rfl rfl ?_
 unfold F10_crossroadsref25_Hops at hR
 try dsimp only at hR
 change WK _ _ _ [ac10] _ ⟨[(0, .ro 2 (a0.map THop.c)), (1, .ro 2 (b1.map THop.c))], [], 0⟩
 unfold ac10
 refine WK.sr mixed (GX.m rfl (GX.done (WK.seq (WK.sr mixed (GX.m rfl (GX.pure (v' := .int .i64 (a0.length : Int)) rfl rfl rfl rfl (len_map _ _) (GX.m rfl (GX.pure (v' := .int .i64 (b1.length : Int)) rfl rfl rfl rfl (len_map _ _) (GX.q (.bool (!decide ((a0.length : Int) = (b1.length : Int)))) (GX.done ?_))))))))))
 rcases bool_two (decide ((a0.length : Int) = (b1.length : Int))) with hb1 | hb1
 ·rw [hb1]; first | replace hR := cond_f hb1 hR | (try simp only [hb1, bb] at hR)
  refine WK.condT rfl (WK.sr mixed (GX.m rfl (GX.done (WK.ret ?_))))
  obtain rfl := Option.some.inj hR
  exact RetQ.fr [] (.inr rfl) rfl rfl rfl rfl
 ·rw [hb1]; first | replace hR := cond_t hb1 hR | (try simp only [hb1, bb] at hR)
  refine WK.condF rfl (WK.skip (WK.seq (WK.sr mixed (GX.m rfl (GX.done ?_)))))
  refine WK.len (t := 0) rfl (by simp) (fun hlen_2 => ?_)
  rw [List.length_map] at hlen_2
  generalize hZ_2 : F10_crossroadsref25_Hops_l1 b1 0 a0 = Z_2 at hR
  refine WK.forK (fun k s => ∃ (i5 : Nat), i5 ≤ a0.length ∧ k = a0.length - i5 ∧ F10_crossroadsref25_Hops_l1 b1 i5 (a0.drop i5) = Z_2 ∧ s = ⟨[(0, .ro 2 (a0.map THop.c)), (1, .ro 2 (b1.map THop.c)), (5, .int .i64 (i5 : Int))], [], 0⟩) a0.length (by refine ⟨_, ?_, 0, (by omega), rfl, hZ_2, rfl⟩; exact Conv.keep [] [] [0, 1, 5] rfl rfl (viewE_cons rfl rfl (viewE_cons rfl rfl (viewE_cons rfl rfl viewE_nil))) rfl rfl) ?_
  rintro _ _ ⟨i5, hi_2, rfl, hL_2, rfl⟩ again_2 out_2 Q_2 hagain_2 hout_2 hQ_2
  refine WK.seq (WK.sr mixed (GX.m rfl (GX.m rfl (GX.pure (v' := .int .i64 (a0.length : Int)) rfl rfl rfl rfl (len_map _ _) (GX.q (.bool (decide ((i5 : Int) < (a0.length : Int)))) (GX.done ?_))))))
  rcases bool_two (decide ((i5 : Int) < (a0.length : Int))) with hb3 | hb3
  ·rw [hb3]
   rw [drop_end hb3, F10_crossroadsref25_Hops_l1] at hL_2
   refine WK.condF rfl (WK.exit ?_)
   refine QF.exit (hout_2 _ ?_)
   subst hL_2
   replace hR := oexc_k hR; try dsimp only at hR
   refine WK.sr mixed (GX.m rfl (GX.done (WK.ret ?_)))
   obtain rfl := Option.some.inj hR
   exact RetQ.fr [] (.inr rfl) rfl rfl rfl rfl
  ·rw [hb3]
   obtain ⟨x5, hx2, hd2, hlt2⟩ := drop_more hb3
   rw [hd2, F10_crossroadsref25_Hops_l1] at hL_2
   refine WK.condT rfl (WK.skip (WK.seq ?_))
   refine WK.blockK (fun _ hK4 => ?_)
   refine WK.seq (WK.drawn mixed (RD.m rfl (RD.m rfl (RD.idxT (c := THop.c) (x := x5) rfl rfl rfl (Int.natCast_nonneg _) hx2 (RD.q (.agg (THop.c x5)) (RD.m rfl (RD.m rfl ?_)))))))
   rcases obind_cases hL_2 with ⟨_, hL_2⟩ | ⟨x904, hx904, hL_2⟩
   ·subst hL_2
    first | replace hR := obind_n hR | replace hR := oexc_n hR
    cases hR
   try dsimp only at hL_2
   obtain ⟨hx9040, hx904j, hx904l, hx904⟩ := getI_some hx904
   refine RD.idxT (c := THop.c) (x := x904) rfl rfl rfl hx9040 hx904 (RD.q (.agg (THop.c x904)) (RD.q (.bool (!(decide (x5.Iface = x904.Iface) && (decide (x5.Gate = x904.Gate) && true)))) (RD.done rfl ?_)))
   rcases bool_two (decide (x5.Iface = x904.Iface) && (decide (x5.Gate = x904.Gate) && true)) with hb6 | hb6
   ·rw [hb6]; try simp only [hb6, bb] at hL_2
    refine WK.condT rfl (WK.sr mixed (GX.m rfl (GX.done (WK.ret (QF.ret ?_)))))
    refine QF.ret (hQ_2 _ _ ?_)
    subst hL_2
    first | replace hR := oexc_e hR | replace hR := oexc_k hR | replace hR := obind_s hR
    try dsimp only at hR
    obtain rfl := Option.some.inj hR
    exact RetQ.fr [] (.inr rfl) rfl rfl rfl rfl
   ·rw [hb6]; try simp only [hb6, bb] at hL_2
    refine WK.condF rfl (WK.skip ?_)
    refine WK.nil (QF.normal (hK4 _ ?_))
    refine WK.regx mixed (GX.m rfl (GX.pure (v' := .int .i64 ((i5 + 1 : Nat) : Int)) rfl rfl rfl rfl (congrArg (PVal.int .i64) (wrap_up hlt2 hlen_2)) (GX.m rfl (GX.done ?_))))
    refine WK.nil (QF.normal ?_)
    refine hagain_2 _ (a0.length - (i5 + 1)) _ (by omega) ?_ ⟨i5 + 1, (by omega), rfl, hL_2, rfl⟩
    exact Conv.keep [] [] [0, 1, 5] rfl rfl (viewE_cons rfl rfl (viewE_cons rfl rfl (viewE_cons rfl rfl viewE_nil))) rfl rfl
theorem f11_ok (l0 : List THop) (R : (List THop)) (hR : F11_crossroadslaw27_hops l0 = some R) : FnOk Tryd.prog 11 [.ro 2 (l0.map THop.c)] [] 0 (.ro 2 (R.map THop.c)) [] 0 := by
 refine FnOk.wk i11 rfl rfl ?_
 unfold F11_crossroadslaw27_hops at hR
 try dsimp only at hR
 change WK _ _ _ [ac11] _ ⟨[(0, .ro 2 (l0.map THop.c))], [], 0⟩
 unfold ac11
 refine WK.sr mixed (GX.m rfl (GX.done (WK.sr mixed (GX.step (v' := .own 0 2 0 (([] : List THop)).length) (heap' := [(0, .row 2 69 (([] : List THop).map THop.c))]) (next' := 1) rfl rfl rfl rfl rfl rfl rfl (GX.m rfl (GX.done (WK.seq (WK.sr mixed (GX.m rfl (GX.done ?_))))))))))
 refine WK.len (t := 0) rfl (by simp) (fun hlen_4 => ?_)
 rw [List.length_map] at hlen_4
 generalize hZ_4 : F11_crossroadslaw27_hops_l1 ([] : List THop) l0 = Z_4 at hR
 refine WK.forK (fun k s => ∃ (i4 : Nat) (out3 : List THop), i4 ≤ l0.length ∧ k = l0.length - i4 ∧ F11_crossroadslaw27_hops_l1 out3 (l0.drop i4) = Z_4 ∧ s = ⟨[(0, .ro 2 (l0.map THop.c)), (3, .own 0 2 0 out3.length), (4, .int .i64 (i4 : Int))], [(0, .row 2 69 (out3.map THop.c))], 1⟩) l0.length (by refine ⟨_, ?_, 0, ([] : List THop), (by omega), rfl, hZ_4, rfl⟩; exact Conv.keep [0] [] [0, 3, 4] rfl rfl (viewE_cons rfl rfl (viewE_cons rfl rfl (viewE_cons rfl rfl viewE_nil))) rfl rfl) ?_
 rintro _ _ ⟨i4, out3, hi_4, rfl, hL_4, rfl⟩ again_4 out_4 Q_4 hagain_4 hout_4 hQ_4
 refine WK.seq (WK.sr mixed (GX.m rfl (GX.m rfl (GX.pure (v' := .int .i64 (l0.length : Int)) rfl rfl rfl rfl (len_map _ _) (GX.q (.bool (decide ((i4 : Int) < (l0.length : Int)))) (GX.done ?_))))))
 rcases bool_two (decide ((i4 : Int) < (l0.length : Int))) with hb5 | hb5
 ·rw [hb5]
  rw [drop_end hb5, F11_crossroadslaw27_hops_l1] at hL_4
  refine WK.condF rfl (WK.exit ?_)
  refine QF.exit (hout_4 _ ?_)
  subst hL_4
  replace hR := obind_s hR; try dsimp only at hR
  refine WK.sr mixed (GX.m rfl (GX.m rfl (GX.done (WK.ret ?_))))
  obtain rfl := Option.some.inj hR
  exact RetQ.fr [0] (.inr rfl) rfl rfl (viewGo_cons (view_rowT rfl rfl) viewGo_nil) rfl
 ·rw [hb5]
  obtain ⟨x4, hx4, hd4, hlt4⟩ := drop_more hb5
  rw [hd4, F11_crossroadslaw27_hops_l1] at hL_4
  refine WK.condT rfl (WK.skip (WK.seq ?_))
  refine WK.blockK (fun _ hK6 => ?_)
  refine WK.drawn mixed (RD.m rfl (RD.m rfl (RD.m rfl (RD.idxT (c := THop.c) (x := x4) rfl rfl rfl (Int.natCast_nonneg _) hx4 (RD.q (.rptr (THop.c x4)) (RD.q (.int .i64 x4.Iface) (RD.m rfl (RD.m rfl (RD.idxT (c := THop.c) (x := x4) rfl rfl rfl (Int.natCast_nonneg _) hx4 (RD.q (.rptr [.int .u32 x4.Gate]) (RD.q (.int .u32 x4.Gate) (RD.q (.agg (THop.c x4)) (RD.step (v' := .own 1 2 0 (([x4] : List THop)).length) (heap' := [(0, .row 2 69 (out3.map THop.c)), (1, .row 2 69 (([x4] : List THop).map THop.c))]) (next' := 2) rfl rfl rfl rfl rfl rfl rfl ?_)))))))))))))
  rcases bool_two (decide (out3.length < 1099511627776)) with hg7 | hg7
  ·replace hL_4 := cond_f hg7 hL_4
   subst hL_4
   first | replace hR := obind_n hR | replace hR := oexc_n hR
   cases hR
  replace hL_4 := cond_t hg7 hL_4; try dsimp only at hL_4
  have hg7_ := of_decide_eq_true hg7
  refine RD.appT (c := THop.c) (L := out3) (X := ([x4] : List THop)) (heap' := [(1, .row 2 69 (([x4] : List THop).map THop.c)), (2, .row 2 69 ((out3 ++ ([x4] : List THop)).map THop.c))]) (next' := 3) rfl rfl rfl rfl (elems_own rfl) (by ((try simp only [List.length_append, List.length_cons, List.length_nil, List.length_map, decide_eq_true_eq, decide_eq_false_iff_not] at *) <;> omega)) (by ((try simp only [List.length_append, List.length_cons, List.length_nil, List.length_map, decide_eq_true_eq, decide_eq_false_iff_not] at *) <;> omega)) rfl rfl rfl rfl (RD.m rfl (RD.done rfl ?_))
  refine WK.nil (QF.normal (hK6 _ ?_))
  refine WK.regx mixed (GX.m rfl (GX.pure (v' := .int .i64 ((i4 + 1 : Nat) : Int)) rfl rfl rfl rfl (congrArg (PVal.int .i64) (wrap_up hlt4 hlen_4)) (GX.m rfl (GX.done ?_))))
  refine WK.nil (QF.normal ?_)
  refine hagain_4 _ (l0.length - (i4 + 1)) _ (by omega) ?_ ⟨i4 + 1, (out3 ++ ([x4] : List THop)), (by omega), rfl, hL_4, rfl⟩
  exact Conv.keep [2] [] [0, 3, 4] rfl rfl (viewE_cons rfl rfl (viewE_cons rfl rfl (viewE_cons rfl rfl viewE_nil))) rfl rfl
theorem f3_ok (first0 : List TCand) (l1 : List TCand) (a2 : Int) (R : Bool) (hR : F3_crossroadslaw27_FibOrder first0 l1 a2 = some R) : FnOk Tryd.prog 3 [.ro 10 (first0.map TCand.c), .ro 10 (l1.map TCand.c), .int .u32 a2] [] 0 (.bool R) [] 0 := by
 refine FnOk.wk i3 rfl rfl ?_
 unfold F3_crossroadslaw27_FibOrder at hR
 try dsimp only at hR
 change WK _ _ _ [ac3] _ ⟨[(0, .ro 10 (first0.map TCand.c)), (1, .ro 10 (l1.map TCand.c)), (2, .int .u32 a2)], [], 0⟩
 unfold ac3
 refine WK.sr mixed (GX.m rfl (GX.done (WK.sr mixed ?_)))
 generalize hc19 : F5_fib_New = c19 at hR
 try dsimp only at hR
 refine GX.callx (r' := .ptr 0 0) (heap' := [(5, .mq c19.atf.1 (c19.atf.2.map (encE (fun y => .int .i64 y)))), (4, .row 3 68 (c19.sets.map TGroup.c)), (3, .row 1 3 (c19.t.free.map c_i64)), (2, .row 6 96 (c19.t.l.map TNode.c)), (1, .box [.own 2 6 0 c19.t.l.length, .own 3 1 0 c19.t.free.length, .int .i64 c19.t.root, .int .i64 c19.t.n]), (0, .box [.ptr 1 0, .own 4 3 0 c19.sets.length, .mapr 5])]) (next' := 6) [] [] rfl rfl rfl rfl rfl rfl (f5_ok  _ hc19) (.inl rfl) rfl rfl rfl (GX.callx (r' := .ptr 6 0) (heap' := [(5, .mq c19.atf.1 (c19.atf.2.map (encE (fun y => .int .i64 y)))), (4, .row 3 68 (c19.sets.map TGroup.c)), (3, .row 1 3 (c19.t.free.map c_i64)), (2, .row 6 96 (c19.t.l.map TNode.c)), (1, .box [.own 2 6 0 c19.t.l.length, .own 3 1 0 c19.t.free.length, .int .i64 c19.t.root, .int .i64 c19.t.n]), (0, .box [.ptr 1 0, .own 4 3 0 c19.sets.length, .mapr 5]), (11, .mq c19.atf.1 (c19.atf.2.map (encE (fun y => .int .i64 y)))), (10, .row 3 68 (c19.sets.map TGroup.c)), (9, .row 1 3 (c19.t.free.map c_i64)), (8, .row 6 96 (c19.t.l.map TNode.c)), (7, .box [.own 8 6 0 c19.t.l.length, .own 9 1 0 c19.t.free.length, .int .i64 c19.t.root, .int .i64 c19.t.n]), (6, .box [.ptr 7 0, .own 10 3 0 c19.sets.length, .mapr 11])]) (next' := 12) [] [] rfl rfl rfl rfl rfl rfl (f5_ok  _ hc19) (.inl rfl) rfl rfl rfl (GX.m rfl (GX.m rfl (GX.done (WK.seq (WK.sr mixed (GX.m rfl (GX.q (.bool false) (GX.m rfl (GX.m rfl (GX.q (.bool false) (GX.q (.bool false) (GX.done ?_)))))))))))))
 refine WK.condF rfl (WK.skip (WK.seq (WK.sr mixed (GX.m rfl (GX.q (.agg [.int .i64 0, .int .u32 0, .int .i64 0, .nils, .ro 10 (first0.map TCand.c)]) ?_)))))
 obtain ⟨c29, hc29, hR⟩ := obind_inv hR; try dsimp only at hR
 try dsimp only at hR
 refine GX.callp (r := .bool c29) rfl rfl rfl (FnOk.weak (f6_ok (⟨0, (⟨0, 0⟩ : TPrefix), ([] : List THop), first0⟩ : TAct) _ hc29) (.cons (.agg (.cons .refl (.cons .refl (.cons .refl (.cons .nil .refl))))) .refl)) rfl rfl (GX.q (.bool (!c29)) (GX.m rfl ?_))
 rcases bool_two (c29) with hb2 | hb2
 ·rw [hb2]; first | replace hR := cond_f hb2 hR | (try simp only [hb2, bb] at hR)
  iterate 4 refine GX.skip rfl rfl ?_
  refine GX.q (.bool true) (GX.done (WK.condT rfl (WK.sr mixed ?_)))
  obtain ⟨c37, hc37, hR⟩ := obind_inv hR; try dsimp only at hR
  try dsimp only at hR
  refine GX.callp (r := .bool c37) rfl rfl rfl (f7_ok  _ hc37) rfl rfl (GX.m rfl (GX.done (WK.ret ?_)))
  obtain rfl := Option.some.inj hR
  exact RetQ.fr [] (.inr rfl) rfl rfl rfl rfl
 ·rw [hb2]; first | replace hR := cond_t hb2 hR | (try simp only [hb2, bb] at hR)
  refine GX.m rfl (GX.q (.agg [.int .i64 0, .int .u32 0, .int .i64 0, .nils, .ro 10 (l1.map TCand.c)]) ?_)
  obtain ⟨c34, hc34, hR⟩ := obind_inv hR; try dsimp only at hR
  try dsimp only at hR
  refine GX.callp (r := .bool c34) rfl rfl rfl (FnOk.weak (f6_ok (⟨0, (⟨0, 0⟩ : TPrefix), ([] : List THop), l1⟩ : TAct) _ hc34) (.cons (.agg (.cons .refl (.cons .refl (.cons .refl (.cons .nil .refl))))) .refl)) rfl rfl (GX.q (.bool (!c34)) (GX.q (.bool (!c34)) (GX.done ?_)))
  rcases bool_two (c34) with hb3 | hb3
  ·rw [hb3]; first | replace hR := cond_f hb3 hR | (try simp only [hb3, bb] at hR)
   refine WK.condT rfl (WK.sr mixed ?_)
   obtain ⟨c37, hc37, hR⟩ := obind_inv hR; try dsimp only at hR
   try dsimp only at hR
   refine GX.callp (r := .bool c37) rfl rfl rfl (f7_ok  _ hc37) rfl rfl (GX.m rfl (GX.done (WK.ret ?_)))
   obtain rfl := Option.some.inj hR
   exact RetQ.fr [] (.inr rfl) rfl rfl rfl rfl
  ·rw [hb3]; first | replace hR := cond_t hb3 hR | (try simp only [hb3, bb] at hR)
   refine WK.condF rfl (WK.skip (WK.sr mixed (GX.step (v' := .own 12 10 0 (([] : List TCand)).length) (heap' := [(5, .mq c19.atf.1 (c19.atf.2.map (encE (fun y => .int .i64 y)))), (4, .row 3 68 (c19.sets.map TGroup.c)), (3, .row 1 3 (c19.t.free.map c_i64)), (2, .row 6 96 (c19.t.l.map TNode.c)), (1, .box [.own 2 6 0 c19.t.l.length, .own 3 1 0 c19.t.free.length, .int .i64 c19.t.root, .int .i64 c19.t.n]), (0, .box [.ptr 1 0, .own 4 3 0 c19.sets.length, .mapr 5]), (11, .mq c19.atf.1 (c19.atf.2.map (encE (fun y => .int .i64 y)))), (10, .row 3 68 (c19.sets.map TGroup.c)), (9, .row 1 3 (c19.t.free.map c_i64)), (8, .row 6 96 (c19.t.l.map TNode.c)), (7, .box [.own 8 6 0 c19.t.l.length, .own 9 1 0 c19.t.free.length, .int .i64 c19.t.root, .int .i64 c19.t.n]), (6, .box [.ptr 7 0, .own 10 3 0 c19.sets.length, .mapr 11]), (12, .row 10 34 (([] : List TCand).map TCand.c))]) (next' := 13) rfl rfl rfl rfl rfl rfl rfl (GX.m rfl (GX.done (WK.seq (WK.sr mixed (GX.m rfl (GX.pure (v' := .int .i64 (l1.length : Int)) rfl rfl rfl rfl (len_map _ _) (GX.q (.int .i64 (IntKind.i64.wrap ((l1.length : Int) - 1))) (GX.m rfl (GX.done ?_))))))))))))
   refine WK.len (t := 0) rfl (by simp) (fun hln0_26 => ?_)
   rw [List.length_map] at hln0_26
   refine WK.len (t := 1) rfl (by simp) (fun hln1_26 => ?_)
   rw [List.length_map] at hln1_26
   generalize hZ_26 : F3_crossroadslaw27_FibOrder_l3 l1 100 (IntKind.i64.wrap ((l1.length : Int) - 1)) ([] : List TCand) = Z_26 at hR
   refine WK.forK (fun k s => ∃ (i10 : Int) (k9 : List TCand), F3_crossroadslaw27_FibOrder_l3 l1 k i10 k9 = Z_26 ∧ s = ⟨[(0, .ro 10 (first0.map TCand.c)), (1, .ro 10 (l1.map TCand.c)), (2, .int .u32 a2), (7, .ptr 0 0), (8, .ptr 6 0), (9, .own 12 10 0 k9.length), (10, .int .i64 i10)], [(0, .box [.ptr 1 0, .own 4 3 0 c19.sets.length, .mapr 5]), (1, .box [.own 2 6 0 c19.t.l.length, .own 3 1 0 c19.t.free.length, .int .i64 c19.t.root, .int .i64 c19.t.n]), (2, .row 6 96 (c19.t.l.map TNode.c)), (3, .row 1 3 (c19.t.free.map c_i64)), (4, .row 3 68 (c19.sets.map TGroup.c)), (5, .mq c19.atf.1 (c19.atf.2.map (encE (fun y => .int .i64 y)))), (6, .box [.ptr 7 0, .own 10 3 0 c19.sets.length, .mapr 11]), (7, .box [.own 8 6 0 c19.t.l.length, .own 9 1 0 c19.t.free.length, .int .i64 c19.t.root, .int .i64 c19.t.n]), (8, .row 6 96 (c19.t.l.map TNode.c)), (9, .row 1 3 (c19.t.free.map c_i64)), (10, .row 3 68 (c19.sets.map TGroup.c)), (11, .mq c19.atf.1 (c19.atf.2.map (encE (fun y => .int .i64 y)))), (12, .row 10 34 (k9.map TCand.c))], 13⟩) 100 (by refine ⟨_, ?_, (IntKind.i64.wrap ((l1.length : Int) - 1)), ([] : List TCand), hZ_26, rfl⟩; exact Conv.keep [0, 1, 2, 3, 4, 5, 6, 7, 8, 9, 10, 11, 12] [] [0, 1, 2, 7, 8, 9, 10] rfl rfl (viewE_cons rfl rfl (viewE_cons rfl rfl (viewE_cons rfl rfl (viewE_cons rfl rfl (viewE_cons rfl rfl (viewE_cons rfl rfl (viewE_cons rfl rfl viewE_nil))))))) rfl rfl) ?_
   rintro k26 _ ⟨i10, k9, hL_26, rfl⟩ again_26 out_26 Q_26 hagain_26 hout_26 hQ_26
   rcases k26 with _ | f26
   ·unfold F3_crossroadslaw27_FibOrder_l3 at hL_26
    subst hL_26
    first | replace hR := obind_n hR | replace hR := oexc_n hR
    cases hR
   unfold F3_crossroadslaw27_FibOrder_l3 at hL_26; try dsimp only at hL_26
   refine WK.seq (WK.sr mixed (GX.m rfl (GX.q (.bool (decide (0 ≤ i10))) (GX.done ?_))))
   rcases bool_two (decide (0 ≤ i10)) with hb27 | hb27
   ·rw [hb27]; try simp only [hb27, bb] at hL_26
    refine WK.condF rfl (WK.exit ?_)
    refine QF.exit (hout_26 _ ?_)
    subst hL_26
    replace hR := oexc_k hR; try dsimp only at hR
    refine WK.sr mixed (GX.m rfl (GX.m rfl ?_))
    obtain ⟨c72, hc72, hR⟩ := obind_inv hR; try dsimp only at hR
    refine GX.callx (r' := .tup [.int .i64 c72.1, .int .i64 c72.2.1]) (heap' := [(0, .box [.ptr 1 0, .own 15 3 0 c72.2.2.sets.length, .mapr 5]), (1, .box [.own 13 6 0 c72.2.2.t.l.length, .own 14 1 0 c72.2.2.t.free.length, .int .i64 c72.2.2.t.root, .int .i64 c72.2.2.t.n]), (5, .mq c72.2.2.atf.1 (c72.2.2.atf.2.map (encE (fun y => .int .i64 y)))), (6, .box [.ptr 7 0, .own 10 3 0 c19.sets.length, .mapr 11]), (7, .box [.own 8 6 0 c19.t.l.length, .own 9 1 0 c19.t.free.length, .int .i64 c19.t.root, .int .i64 c19.t.n]), (8, .row 6 96 (c19.t.l.map TNode.c)), (9, .row 1 3 (c19.t.free.map c_i64)), (10, .row 3 68 (c19.sets.map TGroup.c)), (11, .mq c19.atf.1 (c19.atf.2.map (encE (fun y => .int .i64 y)))), (12, .row 10 34 (k9.map TCand.c)), (15, .row 3 68 (c72.2.2.sets.map TGroup.c)), (14, .row 1 3 (c72.2.2.t.free.map c_i64)), (13, .row 6 96 (c72.2.2.t.l.map TNode.c))]) (next' := 16) [0, 1, 2, 3, 4, 5] [] rfl rfl rfl rfl rfl rfl (f8_ok c19 l1 _ hc72) (.inl rfl) rfl rfl rfl (GX.done (WK.sr mixed (GX.m rfl (GX.m rfl ?_))))
    obtain ⟨c75, hc75, hR⟩ := obind_inv hR; try dsimp only at hR
    refine GX.callx (r' := .tup [.int .i64 c75.1, .int .i64 c75.2.1]) (heap' := [(0, .box [.ptr 1 0, .own 15 3 0 c72.2.2.sets.length, .mapr 5]), (1, .box [.own 13 6 0 c72.2.2.t.l.length, .own 14 1 0 c72.2.2.t.free.length, .int .i64 c72.2.2.t.root, .int .i64 c72.2.2.t.n]), (5, .mq c72.2.2.atf.1 (c72.2.2.atf.2.map (encE (fun y => .int .i64 y)))), (6, .box [.ptr 7 0, .own 18 3 0 c75.2.2.sets.length, .mapr 11]), (7, .box [.own 16 6 0 c75.2.2.t.l.length, .own 17 1 0 c75.2.2.t.free.length, .int .i64 c75.2.2.t.root, .int .i64 c75.2.2.t.n]), (11, .mq c75.2.2.atf.1 (c75.2.2.atf.2.map (encE (fun y => .int .i64 y)))), (12, .row 10 34 (k9.map TCand.c)), (15, .row 3 68 (c72.2.2.sets.map TGroup.c)), (14, .row 1 3 (c72.2.2.t.free.map c_i64)), (13, .row 6 96 (c72.2.2.t.l.map TNode.c)), (18, .row 3 68 (c75.2.2.sets.map TGroup.c)), (17, .row 1 3 (c75.2.2.t.free.map c_i64)), (16, .row 6 96 (c75.2.2.t.l.map TNode.c))]) (next' := 19) [6, 7, 8, 9, 10, 11] [] rfl rfl rfl rfl rfl rfl (f8_ok c19 first0 _ hc75) (.inl rfl) rfl rfl rfl (GX.done (WK.seq ?_))
    refine WK.conv (st' := ⟨[(1, .ro 10 (l1.map TCand.c)), (2, .int .u32 a2), (7, .ptr 0 0), (8, .ptr 6 0), (9, .ro 10 (k9.map TCand.c))], [(0, .box [.ptr 1 0, .own 4 3 0 c72.2.2.sets.length, .mapr 5]), (1, .box [.own 2 6 0 c72.2.2.t.l.length, .own 3 1 0 c72.2.2.t.free.length, .int .i64 c72.2.2.t.root, .int .i64 c72.2.2.t.n]), (2, .row 6 96 (c72.2.2.t.l.map TNode.c)), (3, .row 1 3 (c72.2.2.t.free.map c_i64)), (4, .row 3 68 (c72.2.2.sets.map TGroup.c)), (5, .mq c72.2.2.atf.1 (c72.2.2.atf.2.map (encE (fun y => .int .i64 y)))), (6, .box [.ptr 7 0, .own 10 3 0 c75.2.2.sets.length, .mapr 11]), (7, .box [.own 8 6 0 c75.2.2.t.l.length, .own 9 1 0 c75.2.2.t.free.length, .int .i64 c75.2.2.t.root, .int .i64 c75.2.2.t.n]), (8, .row 6 96 (c75.2.2.t.l.map TNode.c)), (9, .row 1 3 (c75.2.2.t.free.map c_i64)), (10, .row 3 68 (c75.2.2.sets.map TGroup.c)), (11, .mq c75.2.2.atf.1 (c75.2.2.atf.2.map (encE (fun y => .int .i64 y))))], 12⟩) (Conv.keep [0, 1, 13, 14, 15, 5, 6, 7, 16, 17, 18, 11] [12] [1, 2, 7, 8, 9] rfl rfl (viewE_cons rfl rfl (viewE_cons rfl rfl (viewE_cons rfl rfl (viewE_cons rfl rfl (viewE_cons rfl (view_rowT rfl rfl) viewE_nil))))) rfl rfl) ?_ (by simp)
    refine WK.regx mixed (GX.m rfl (GX.m rfl ?_))
    obtain ⟨c78, hc78, hR⟩ := obind_inv hR; try dsimp only at hR
    refine GX.callx (r' := .tup [.int .i64 c78.1, .int .i64 c78.2.1]) (heap' := [(0, .box [.ptr 1 0, .own 4 3 0 c72.2.2.sets.length, .mapr 5]), (1, .box [.own 2 6 0 c72.2.2.t.l.length, .own 3 1 0 c72.2.2.t.free.length, .int .i64 c72.2.2.t.root, .int .i64 c72.2.2.t.n]), (2, .row 6 96 (c72.2.2.t.l.map TNode.c)), (3, .row 1 3 (c72.2.2.t.free.map c_i64)), (4, .row 3 68 (c72.2.2.sets.map TGroup.c)), (5, .mq c72.2.2.atf.1 (c72.2.2.atf.2.map (encE (fun y => .int .i64 y)))), (6, .box [.ptr 7 0, .own 14 3 0 c78.2.2.sets.length, .mapr 11]), (7, .box [.own 12 6 0 c78.2.2.t.l.length, .own 13 1 0 c78.2.2.t.free.length, .int .i64 c78.2.2.t.root, .int .i64 c78.2.2.t.n]), (11, .mq c78.2.2.atf.1 (c78.2.2.atf.2.map (encE (fun y => .int .i64 y)))), (14, .row 3 68 (c78.2.2.sets.map TGroup.c)), (13, .row 1 3 (c78.2.2.t.free.map c_i64)), (12, .row 6 96 (c78.2.2.t.l.map TNode.c))]) (next' := 15) [6, 7, 8, 9, 10, 11] [] rfl rfl rfl rfl rfl rfl (f8_ok c75.2.2 k9 _ hc78) (.inl rfl) rfl rfl rfl (GX.done (WK.seq (WK.sr mixed (GX.m rfl (GX.done ?_)))))
    refine WK.len (t := 1) rfl (by simp) (fun hlen_31 => ?_)
    rw [List.length_map] at hlen_31
    generalize hZ_31 : F3_crossroadslaw27_FibOrder_l1 l1 = Z_31 at hR
    refine WK.forK (fun k s => ∃ (i12 : Nat), i12 ≤ l1.length ∧ k = l1.length - i12 ∧ F3_crossroadslaw27_FibOrder_l1 (l1.drop i12) = Z_31 ∧ s = ⟨[(1, .ro 10 (l1.map TCand.c)), (2, .int .u32 a2), (7, .ptr 0 0), (8, .ptr 6 0), (12, .int .i64 (i12 : Int))], [(0, .box [.ptr 1 0, .own 4 3 0 c72.2.2.sets.length, .mapr 5]), (1, .box [.own 2 6 0 c72.2.2.t.l.length, .own 3 1 0 c72.2.2.t.free.length, .int .i64 c72.2.2.t.root, .int .i64 c72.2.2.t.n]), (2, .row 6 96 (c72.2.2.t.l.map TNode.c)), (3, .row 1 3 (c72.2.2.t.free.map c_i64)), (4, .row 3 68 (c72.2.2.sets.map TGroup.c)), (5, .mq c72.2.2.atf.1 (c72.2.2.atf.2.map (encE (fun y => .int .i64 y)))), (6, .box [.ptr 7 0, .own 10 3 0 c78.2.2.sets.length, .mapr 11]), (7, .box [.own 8 6 0 c78.2.2.t.l.length, .own 9 1 0 c78.2.2.t.free.length, .int .i64 c78.2.2.t.root, .int .i64 c78.2.2.t.n]), (8, .row 6 96 (c78.2.2.t.l.map TNode.c)), (9, .row 1 3 (c78.2.2.t.free.map c_i64)), (10, .row 3 68 (c78.2.2.sets.map TGroup.c)), (11, .mq c78.2.2.atf.1 (c78.2.2.atf.2.map (encE (fun y => .int .i64 y))))], 12⟩) l1.length (by refine ⟨_, ?_, 0, (by omega), rfl, hZ_31, rfl⟩; exact Conv.keep [0, 1, 2, 3, 4, 5, 6, 7, 12, 13, 14, 11] [] [1, 2, 7, 8, 12] rfl rfl (viewE_cons rfl rfl (viewE_cons rfl rfl (viewE_cons rfl rfl (viewE_cons rfl rfl (viewE_cons rfl rfl viewE_nil))))) rfl rfl) ?_
    rintro _ _ ⟨i12, hi_31, rfl, hL_31, rfl⟩ again_31 out_31 Q_31 hagain_31 hout_31 hQ_31
    refine WK.seq (WK.sr mixed (GX.m rfl (GX.m rfl (GX.pure (v' := .int .i64 (l1.length : Int)) rfl rfl rfl rfl (len_map _ _) (GX.q (.bool (decide ((i12 : Int) < (l1.length : Int)))) (GX.done ?_))))))
    rcases bool_two (decide ((i12 : Int) < (l1.length : Int))) with hb32 | hb32
    ·rw [hb32]
     rw [drop_end hb32, F3_crossroadslaw27_FibOrder_l1] at hL_31
     refine WK.condF rfl (WK.exit ?_)
     refine QF.exit (hout_31 _ ?_)
     subst hL_31
     replace hR := oexc_k hR; try dsimp only at hR
     refine WK.sr mixed (GX.m rfl (GX.m rfl ?_))
     obtain ⟨c105, hc105, hR⟩ := obind_inv hR; try dsimp only at hR
     refine GX.callx (r' := .tup [.agg (TPrefix.c c105.1), .ro 2 (c105.2.1.map THop.c), .bool c105.2.2]) (heap' := [(0, .box [.ptr 1 0, .own 4 3 0 c72.2.2.sets.length, .mapr 5]), (1, .box [.own 2 6 0 c72.2.2.t.l.length, .own 3 1 0 c72.2.2.t.free.length, .int .i64 c72.2.2.t.root, .int .i64 c72.2.2.t.n]), (2, .row 6 96 (c72.2.2.t.l.map TNode.c)), (3, .row 1 3 (c72.2.2.t.free.map c_i64)), (4, .row 3 68 (c72.2.2.sets.map TGroup.c)), (5, .mq c72.2.2.atf.1 (c72.2.2.atf.2.map (encE (fun y => .int .i64 y)))), (6, .box [.ptr 7 0, .own 10 3 0 c78.2.2.sets.length, .mapr 11]), (7, .box [.own 8 6 0 c78.2.2.t.l.length, .own 9 1 0 c78.2.2.t.free.length, .int .i64 c78.2.2.t.root, .int .i64 c78.2.2.t.n]), (8, .row 6 96 (c78.2.2.t.l.map TNode.c)), (9, .row 1 3 (c78.2.2.t.free.map c_i64)), (10, .row 3 68 (c78.2.2.sets.map TGroup.c)), (11, .mq c78.2.2.atf.1 (c78.2.2.atf.2.map (encE (fun y => .int .i64 y))))]) (next' := 12) [0, 1, 2, 3, 4, 5] [] rfl rfl rfl rfl rfl rfl (f9_ok c72.2.2 a2 _ hc105) (.inl rfl) rfl rfl rfl (GX.m rfl (GX.q (.agg (TPrefix.c c105.1)) (GX.q (.ro 2 (c105.2.1.map THop.c)) (GX.q (.bool c105.2.2) (GX.step (v' := .ptr 12 0) (heap' := [(0, .box [.ptr 1 0, .own 4 3 0 c72.2.2.sets.length, .mapr 5]), (1, .box [.own 2 6 0 c72.2.2.t.l.length, .own 3 1 0 c72.2.2.t.free.length, .int .i64 c72.2.2.t.root, .int .i64 c72.2.2.t.n]), (2, .row 6 96 (c72.2.2.t.l.map TNode.c)), (3, .row 1 3 (c72.2.2.t.free.map c_i64)), (4, .row 3 68 (c72.2.2.sets.map TGroup.c)), (5, .mq c72.2.2.atf.1 (c72.2.2.atf.2.map (encE (fun y => .int .i64 y)))), (6, .box [.ptr 7 0, .own 10 3 0 c78.2.2.sets.length, .mapr 11]), (7, .box [.own 8 6 0 c78.2.2.t.l.length, .own 9 1 0 c78.2.2.t.free.length, .int .i64 c78.2.2.t.root, .int .i64 c78.2.2.t.n]), (8, .row 6 96 (c78.2.2.t.l.map TNode.c)), (9, .row 1 3 (c78.2.2.t.free.map c_i64)), (10, .row 3 68 (c78.2.2.sets.map TGroup.c)), (11, .mq c78.2.2.atf.1 (c78.2.2.atf.2.map (encE (fun y => .int .i64 y)))), (12, .box [.int .u32 0, .int .i64 0])]) (next' := 13) rfl rfl rfl rfl rfl rfl rfl (GX.step0 (heap' := [(0, .box [.ptr 1 0, .own 4 3 0 c72.2.2.sets.length, .mapr 5]), (1, .box [.own 2 6 0 c72.2.2.t.l.length, .own 3 1 0 c72.2.2.t.free.length, .int .i64 c72.2.2.t.root, .int .i64 c72.2.2.t.n]), (2, .row 6 96 (c72.2.2.t.l.map TNode.c)), (3, .row 1 3 (c72.2.2.t.free.map c_i64)), (4, .row 3 68 (c72.2.2.sets.map TGroup.c)), (5, .mq c72.2.2.atf.1 (c72.2.2.atf.2.map (encE (fun y => .int .i64 y)))), (6, .box [.ptr 7 0, .own 10 3 0 c78.2.2.sets.length, .mapr 11]), (7, .box [.own 8 6 0 c78.2.2.t.l.length, .own 9 1 0 c78.2.2.t.free.length, .int .i64 c78.2.2.t.root, .int .i64 c78.2.2.t.n]), (8, .row 6 96 (c78.2.2.t.l.map TNode.c)), (9, .row 1 3 (c78.2.2.t.free.map c_i64)), (10, .row 3 68 (c78.2.2.sets.map TGroup.c)), (11, .mq c78.2.2.atf.1 (c78.2.2.atf.2.map (encE (fun y => .int .i64 y)))), (12, .box (TPrefix.c c105.1))]) (next' := 13) rfl rfl rfl rfl rfl (GX.m rfl (GX.m rfl (GX.done (WK.sr mixed (GX.m rfl (GX.m rfl ?_))))))))))))
     obtain ⟨c112, hc112, hR⟩ := obind_inv hR; try dsimp only at hR
     refine GX.callx (r' := .tup [.agg (TPrefix.c c112.1), .ro 2 (c112.2.1.map THop.c), .bool c112.2.2]) (heap' := [(0, .box [.ptr 1 0, .own 4 3 0 c72.2.2.sets.length, .mapr 5]), (1, .box [.own 2 6 0 c72.2.2.t.l.length, .own 3 1 0 c72.2.2.t.free.length, .int .i64 c72.2.2.t.root, .int .i64 c72.2.2.t.n]), (2, .row 6 96 (c72.2.2.t.l.map TNode.c)), (3, .row 1 3 (c72.2.2.t.free.map c_i64)), (4, .row 3 68 (c72.2.2.sets.map TGroup.c)), (5, .mq c72.2.2.atf.1 (c72.2.2.atf.2.map (encE (fun y => .int .i64 y)))), (6, .box [.ptr 7 0, .own 10 3 0 c78.2.2.sets.length, .mapr 11]), (7, .box [.own 8 6 0 c78.2.2.t.l.length, .own 9 1 0 c78.2.2.t.free.length, .int .i64 c78.2.2.t.root, .int .i64 c78.2.2.t.n]), (8, .row 6 96 (c78.2.2.t.l.map TNode.c)), (9, .row 1 3 (c78.2.2.t.free.map c_i64)), (10, .row 3 68 (c78.2.2.sets.map TGroup.c)), (11, .mq c78.2.2.atf.1 (c78.2.2.atf.2.map (encE (fun y => .int .i64 y)))), (12, .box (TPrefix.c c105.1))]) (next' := 13) [6, 7, 8, 9, 10, 11] [] rfl rfl rfl rfl rfl rfl (f9_ok c78.2.2 a2 _ hc112) (.inl rfl) rfl rfl rfl (GX.m rfl (GX.q (.agg (TPrefix.c c112.1)) (GX.q (.ro 2 (c112.2.1.map THop.c)) (GX.q (.bool c112.2.2) (GX.step (v' := .ptr 13 0) (heap' := [(0, .box [.ptr 1 0, .own 4 3 0 c72.2.2.sets.length, .mapr 5]), (1, .box [.own 2 6 0 c72.2.2.t.l.length, .own 3 1 0 c72.2.2.t.free.length, .int .i64 c72.2.2.t.root, .int .i64 c72.2.2.t.n]), (2, .row 6 96 (c72.2.2.t.l.map TNode.c)), (3, .row 1 3 (c72.2.2.t.free.map c_i64)), (4, .row 3 68 (c72.2.2.sets.map TGroup.c)), (5, .mq c72.2.2.atf.1 (c72.2.2.atf.2.map (encE (fun y => .int .i64 y)))), (6, .box [.ptr 7 0, .own 10 3 0 c78.2.2.sets.length, .mapr 11]), (7, .box [.own 8 6 0 c78.2.2.t.l.length, .own 9 1 0 c78.2.2.t.free.length, .int .i64 c78.2.2.t.root, .int .i64 c78.2.2.t.n]), (8, .row 6 96 (c78.2.2.t.l.map TNode.c)), (9, .row 1 3 (c78.2.2.t.free.map c_i64)), (10, .row 3 68 (c78.2.2.sets.map TGroup.c)), (11, .mq c78.2.2.atf.1 (c78.2.2.atf.2.map (encE (fun y => .int .i64 y)))), (12, .box (TPrefix.c c105.1)), (13, .box [.int .u32 0, .int .i64 0])]) (next' := 14) rfl rfl rfl rfl rfl rfl rfl (GX.step0 (heap' := [(0, .box [.ptr 1 0, .own 4 3 0 c72.2.2.sets.length, .mapr 5]), (1, .box [.own 2 6 0 c72.2.2.t.l.length, .own 3 1 0 c72.2.2.t.free.length, .int .i64 c72.2.2.t.root, .int .i64 c72.2.2.t.n]), (2, .row 6 96 (c72.2.2.t.l.map TNode.c)), (3, .row 1 3 (c72.2.2.t.free.map c_i64)), (4, .row 3 68 (c72.2.2.sets.map TGroup.c)), (5, .mq c72.2.2.atf.1 (c72.2.2.atf.2.map (encE (fun y => .int .i64 y)))), (6, .box [.ptr 7 0, .own 10 3 0 c78.2.2.sets.length, .mapr 11]), (7, .box [.own 8 6 0 c78.2.2.t.l.length, .own 9 1 0 c78.2.2.t.free.length, .int .i64 c78.2.2.t.root, .int .i64 c78.2.2.t.n]), (8, .row 6 96 (c78.2.2.t.l.map TNode.c)), (9, .row 1 3 (c78.2.2.t.free.map c_i64)), (10, .row 3 68 (c78.2.2.sets.map TGroup.c)), (11, .mq c78.2.2.atf.1 (c78.2.2.atf.2.map (encE (fun y => .int .i64 y)))), (12, .box (TPrefix.c c105.1)), (13, .box (TPrefix.c c112.1))]) (next' := 14) rfl rfl rfl rfl rfl (GX.m rfl (GX.m rfl (GX.done (WK.sr mixed ?_))))))))))
     obtain ⟨c116, hc116, hR⟩ := obind_inv hR; try dsimp only at hR
     try dsimp only at hR
     refine GX.callp (r := .bool c116) rfl rfl rfl (f7_ok  _ hc116) rfl rfl (GX.m rfl ?_)
     rcases bool_two (c116) with hb35 | hb35
     ·rw [hb35]; first | replace hR := cond_f hb35 hR | (try simp only [hb35, bb] at hR)
      refine GX.skip rfl rfl (GX.skip rfl rfl (GX.skip rfl rfl (GX.q (.bool false) (GX.m rfl (GX.skip rfl rfl (GX.skip rfl rfl (GX.skip rfl rfl (GX.q (.bool false) (GX.m rfl ?_)))))))))
      iterate 5 refine GX.skip rfl rfl ?_
      refine GX.q (.bool false) (GX.m rfl ?_)
      iterate 5 refine GX.skip rfl rfl ?_
      refine GX.q (.bool false) (GX.m rfl (GX.done (WK.ret ?_)))
      obtain rfl := Option.some.inj hR
      exact RetQ.fr [] (.inr rfl) rfl rfl rfl rfl
     ·rw [hb35]; first | replace hR := cond_t hb35 hR | (try simp only [hb35, bb] at hR)
      refine GX.q (.agg (TPrefix.c c105.1)) ?_
      refine GX.q (.agg (TPrefix.c c112.1)) ?_
      iterate 2 refine GX.q (.bool (decide (c105.1.A = c112.1.A) && (decide (c105.1.N = c112.1.N) && true))) ?_
      refine GX.m rfl ?_
      rcases bool_two ((decide (c105.1.A = c112.1.A) && (decide (c105.1.N = c112.1.N) && true))) with hb36 | hb36
      ·rw [hb36]; try simp only [hb36, bb] at hR
       refine GX.skip rfl rfl (GX.skip rfl rfl (GX.skip rfl rfl (GX.q (.bool false) (GX.m rfl ?_))))
       iterate 5 refine GX.skip rfl rfl ?_
       refine GX.q (.bool false) (GX.m rfl ?_)
       iterate 5 refine GX.skip rfl rfl ?_
       refine GX.q (.bool false) (GX.m rfl (GX.done (WK.ret ?_)))
       obtain rfl := Option.some.inj hR
       exact RetQ.fr [] (.inr rfl) rfl rfl rfl rfl
      ·rw [hb36]; try simp only [hb36, bb] at hR
       refine GX.m rfl (GX.m rfl (GX.q (.bool (c105.2.2 == c112.2.2)) (GX.q (.bool (c105.2.2 == c112.2.2)) (GX.m rfl ?_))))
       rcases bool_two ((c105.2.2 == c112.2.2)) with hb37 | hb37
       ·rw [hb37]; try simp only [hb37, bb] at hR
        iterate 5 refine GX.skip rfl rfl ?_
        refine GX.q (.bool false) (GX.m rfl ?_)
        iterate 5 refine GX.skip rfl rfl ?_
        refine GX.q (.bool false) (GX.m rfl (GX.done (WK.ret ?_)))
        obtain rfl := Option.some.inj hR
        exact RetQ.fr [] (.inr rfl) rfl rfl rfl rfl
       ·rw [hb37]; try simp only [hb37, bb] at hR
        refine GX.m rfl ?_
        obtain ⟨c129, hc129, hR⟩ := obind_inv hR; try dsimp only at hR
        try dsimp only at hR
        refine GX.callp (r := .ro 2 (c129.map THop.c)) rfl rfl rfl (f11_ok c105.2.1 _ hc129) rfl rfl (GX.m rfl ?_)
        obtain ⟨c131, hc131, hR⟩ := obind_inv hR; try dsimp only at hR
        try dsimp only at hR
        refine GX.callp (r := .ro 2 (c131.map THop.c)) rfl rfl rfl (f11_ok c112.2.1 _ hc131) rfl rfl ?_
        obtain ⟨c132, hc132, hR⟩ := obind_inv hR; try dsimp only at hR
        try dsimp only at hR
        refine GX.callp (r := .bool c132) rfl rfl rfl (f10_ok c129 c131 _ hc132) rfl rfl (GX.q (.bool c132) (GX.m rfl ?_))
        rcases bool_two (c132) with hb38 | hb38
        ·rw [hb38]; first | replace hR := cond_f hb38 hR | (try simp only [hb38, bb] at hR)
         iterate 5 refine GX.skip rfl rfl ?_
         refine GX.q (.bool false) (GX.m rfl (GX.done (WK.ret ?_)))
         obtain rfl := Option.some.inj hR
         exact RetQ.fr [] (.inr rfl) rfl rfl rfl rfl
        ·rw [hb38]; first | replace hR := cond_t hb38 hR | (try simp only [hb38, bb] at hR)
         refine GX.m rfl ?_
         obtain ⟨c136, hc136, hR⟩ := obind_inv hR; try dsimp only at hR
         try dsimp only at hR
         refine GX.callx (r' := .int .i64 c136) (heap' := [(0, .box [.ptr 1 0, .own 4 3 0 c72.2.2.sets.length, .mapr 5]), (1, .box [.own 2 6 0 c72.2.2.t.l.length, .own 3 1 0 c72.2.2.t.free.length, .int .i64 c72.2.2.t.root, .int .i64 c72.2.2.t.n]), (2, .row 6 96 (c72.2.2.t.l.map TNode.c)), (3, .row 1 3 (c72.2.2.t.free.map c_i64)), (4, .row 3 68 (c72.2.2.sets.map TGroup.c)), (5, .mq c72.2.2.atf.1 (c72.2.2.atf.2.map (encE (fun y => .int .i64 y)))), (6, .box [.ptr 7 0, .own 10 3 0 c78.2.2.sets.length, .mapr 11]), (7, .box [.own 8 6 0 c78.2.2.t.l.length, .own 9 1 0 c78.2.2.t.free.length, .int .i64 c78.2.2.t.root, .int .i64 c78.2.2.t.n]), (8, .row 6 96 (c78.2.2.t.l.map TNode.c)), (9, .row 1 3 (c78.2.2.t.free.map c_i64)), (10, .row 3 68 (c78.2.2.sets.map TGroup.c)), (11, .mq c78.2.2.atf.1 (c78.2.2.atf.2.map (encE (fun y => .int .i64 y)))), (12, .box (TPrefix.c c105.1)), (13, .box (TPrefix.c c112.1))]) (next' := 14) [0, 1, 2, 3, 4, 5] [] rfl rfl rfl rfl rfl rfl (f12_ok c72.2.2 _ hc136) (.inl rfl) rfl rfl rfl (GX.m rfl ?_)
         obtain ⟨c138, hc138, hR⟩ := obind_inv hR; try dsimp only at hR
         try dsimp only at hR
         refine GX.callx (r' := .int .i64 c138) (heap' := [(0, .box [.ptr 1 0, .own 4 3 0 c72.2.2.sets.length, .mapr 5]), (1, .box [.own 2 6 0 c72.2.2.t.l.length, .own 3 1 0 c72.2.2.t.free.length, .int .i64 c72.2.2.t.root, .int .i64 c72.2.2.t.n]), (2, .row 6 96 (c72.2.2.t.l.map TNode.c)), (3, .row 1 3 (c72.2.2.t.free.map c_i64)), (4, .row 3 68 (c72.2.2.sets.map TGroup.c)), (5, .mq c72.2.2.atf.1 (c72.2.2.atf.2.map (encE (fun y => .int .i64 y)))), (6, .box [.ptr 7 0, .own 10 3 0 c78.2.2.sets.length, .mapr 11]), (7, .box [.own 8 6 0 c78.2.2.t.l.length, .own 9 1 0 c78.2.2.t.free.length, .int .i64 c78.2.2.t.root, .int .i64 c78.2.2.t.n]), (8, .row 6 96 (c78.2.2.t.l.map TNode.c)), (9, .row 1 3 (c78.2.2.t.free.map c_i64)), (10, .row 3 68 (c78.2.2.sets.map TGroup.c)), (11, .mq c78.2.2.atf.1 (c78.2.2.atf.2.map (encE (fun y => .int .i64 y)))), (12, .box (TPrefix.c c105.1)), (13, .box (TPrefix.c c112.1))]) (next' := 14) [6, 7, 8, 9, 10, 11] [] rfl rfl rfl rfl rfl rfl (f12_ok c78.2.2 _ hc138) (.inl rfl) rfl rfl rfl (GX.q (.bool (decide (c136 = c138))) (GX.q (.bool (decide (c136 = c138))) (GX.m rfl (GX.done (WK.ret ?_)))))
         obtain rfl := Option.some.inj hR
         exact RetQ.fr [] (.inr rfl) rfl rfl rfl rfl
    ·rw [hb32]
     obtain ⟨x12, hx31, hd31, hlt31⟩ := drop_more hb32
     rw [hd31, F3_crossroadslaw27_FibOrder_l1] at hL_31
     refine WK.condT rfl (WK.skip (WK.seq ?_))
     refine WK.blockK (fun _ hK41 => ?_)
     refine WK.sr mixed (GX.m rfl (GX.m rfl (GX.idxT (c := TCand.c) (x := x12) rfl rfl rfl (Int.natCast_nonneg _) hx31 (GX.q (.rptr [.ro 2 (x12.Hops.map THop.c)]) (GX.q (.ro 2 (x12.Hops.map THop.c)) (GX.pure (v' := .int .i64 (x12.Hops.length : Int)) rfl rfl rfl rfl (len_map _ _) (GX.q (.bool (decide ((x12.Hops.length : Int) = 0))) (GX.m rfl ?_))))))))
     rcases bool_two (decide ((x12.Hops.length : Int) = 0)) with hb42 | hb42
     ·rw [hb42]; try simp only [hb42, bb] at hL_31
      refine GX.m rfl (GX.m rfl (GX.idxT (c := TCand.c) (x := x12) rfl rfl rfl (Int.natCast_nonneg _) hx31 (GX.q (.rptr [.ro 2 (x12.Hops.map THop.c)]) (GX.q (.ro 2 (x12.Hops.map THop.c)) (GX.pure (v' := .int .i64 (x12.Hops.length : Int)) rfl rfl rfl rfl (len_map _ _) (GX.q (.bool (decide (8 < (x12.Hops.length : Int)))) (GX.q (.bool (decide (8 < (x12.Hops.length : Int)))) (GX.done ?_))))))))
      rcases bool_two (decide (8 < (x12.Hops.length : Int))) with hb43 | hb43
      ·rw [hb43]; try simp only [hb43, bb] at hL_31
       refine WK.condF rfl (WK.skip ?_)
       refine WK.nil (QF.normal (hK41 _ ?_))
       refine WK.regx mixed (GX.m rfl (GX.pure (v' := .int .i64 ((i12 + 1 : Nat) : Int)) rfl rfl rfl rfl (congrArg (PVal.int .i64) (wrap_up hlt31 hlen_31)) (GX.m rfl (GX.done ?_))))
       refine WK.nil (QF.normal ?_)
       refine hagain_31 _ (l1.length - (i12 + 1)) _ (by omega) ?_ ⟨i12 + 1, (by omega), rfl, hL_31, rfl⟩
       exact Conv.keep [0, 1, 2, 3, 4, 5, 6, 7, 8, 9, 10, 11] [] [1, 2, 7, 8, 12] rfl rfl (viewE_cons rfl rfl (viewE_cons rfl rfl (viewE_cons rfl rfl (viewE_cons rfl rfl (viewE_cons rfl rfl viewE_nil))))) rfl rfl
      ·rw [hb43]; try simp only [hb43, bb] at hL_31
       refine WK.condT rfl (WK.sr mixed ?_)
       rcases obind_cases hL_31 with ⟨_, hL_31⟩ | ⟨c101, hc101, hL_31⟩
       ·subst hL_31
        first | replace hR := obind_n hR | replace hR := oexc_n hR
        cases hR
       try dsimp only at hL_31
       try dsimp only at hL_31
       refine GX.callp (r := .bool c101) rfl rfl rfl (f7_ok  _ hc101) rfl rfl (GX.m rfl (GX.done (WK.ret (QF.ret ?_))))
       refine QF.ret (hQ_31 _ _ ?_)
       subst hL_31
       first | replace hR := oexc_e hR | replace hR := oexc_k hR | replace hR := obind_s hR
       try dsimp only at hR
       obtain rfl := Option.some.inj hR
       exact RetQ.fr [] (.inr rfl) rfl rfl rfl rfl
     ·rw [hb42]; try simp only [hb42, bb] at hL_31
      iterate 7 refine GX.skip rfl rfl ?_
      refine GX.q (.bool true) (GX.done (WK.condT rfl (WK.sr mixed ?_)))
      rcases obind_cases hL_31 with ⟨_, hL_31⟩ | ⟨c101, hc101, hL_31⟩
      ·subst hL_31
       first | replace hR := obind_n hR | replace hR := oexc_n hR
       cases hR
      try dsimp only at hL_31
      try dsimp only at hL_31
      refine GX.callp (r := .bool c101) rfl rfl rfl (f7_ok  _ hc101) rfl rfl (GX.m rfl (GX.done (WK.ret (QF.ret ?_))))
      refine QF.ret (hQ_31 _ _ ?_)
      subst hL_31
      first | replace hR := oexc_e hR | replace hR := oexc_k hR | replace hR := obind_s hR
      try dsimp only at hR
      obtain rfl := Option.some.inj hR
      exact RetQ.fr [] (.inr rfl) rfl rfl rfl rfl
   ·rw [hb27]; try simp only [hb27, bb] at hL_26
    refine WK.condT rfl (WK.skip (WK.seq ?_))
    refine WK.blockK (fun _ hK44 => ?_)
    refine WK.seq (WK.sr mixed (GX.m rfl (GX.done ?_)))
    generalize hZ_45 : F3_crossroadslaw27_FibOrder_l2 l1 i10 (fuelUp 0 i10) 0 = Z_45 at hL_26
    refine WK.forK (fun k s => ∃ (i11 : Int), fuelUp i11 i10 ≤ k ∧ 0 ≤ i11 ∧ F3_crossroadslaw27_FibOrder_l2 l1 i10 k i11 = Z_45 ∧ s = ⟨[(0, .ro 10 (first0.map TCand.c)), (1, .ro 10 (l1.map TCand.c)), (2, .int .u32 a2), (7, .ptr 0 0), (8, .ptr 6 0), (9, .own 12 10 0 k9.length), (10, .int .i64 i10), (11, .int .i64 i11)], [(0, .box [.ptr 1 0, .own 4 3 0 c19.sets.length, .mapr 5]), (1, .box [.own 2 6 0 c19.t.l.length, .own 3 1 0 c19.t.free.length, .int .i64 c19.t.root, .int .i64 c19.t.n]), (2, .row 6 96 (c19.t.l.map TNode.c)), (3, .row 1 3 (c19.t.free.map c_i64)), (4, .row 3 68 (c19.sets.map TGroup.c)), (5, .mq c19.atf.1 (c19.atf.2.map (encE (fun y => .int .i64 y)))), (6, .box [.ptr 7 0, .own 10 3 0 c19.sets.length, .mapr 11]), (7, .box [.own 8 6 0 c19.t.l.length, .own 9 1 0 c19.t.free.length, .int .i64 c19.t.root, .int .i64 c19.t.n]), (8, .row 6 96 (c19.t.l.map TNode.c)), (9, .row 1 3 (c19.t.free.map c_i64)), (10, .row 3 68 (c19.sets.map TGroup.c)), (11, .mq c19.atf.1 (c19.atf.2.map (encE (fun y => .int .i64 y)))), (12, .row 10 34 (k9.map TCand.c))], 13⟩) (fuelUp 0 i10) (by refine ⟨_, ?_, 0, Nat.le_refl _, (by omega), hZ_45, rfl⟩; exact Conv.keep [0, 1, 2, 3, 4, 5, 6, 7, 8, 9, 10, 11, 12] [] [0, 1, 2, 7, 8, 9, 10, 11] rfl rfl (viewE_cons rfl rfl (viewE_cons rfl rfl (viewE_cons rfl rfl (viewE_cons rfl rfl (viewE_cons rfl rfl (viewE_cons rfl rfl (viewE_cons rfl rfl (viewE_cons rfl rfl viewE_nil)))))))) rfl rfl) ?_
    rintro k45 _ ⟨i11, hfu45, hinv45_c0, hL_45, rfl⟩ again_45 out_45 Q_45 hagain_45 hout_45 hQ_45
    refine WK.seq (WK.sr mixed (GX.m rfl (GX.m rfl (GX.q (.bool (decide (i11 < i10))) (GX.done ?_)))))
    rcases bool_two (decide (i11 < i10)) with hb46 | hb46
    ·rw [hb46]
     rw [F3_crossroadslaw27_FibOrder_l2_u, hb46, cond_false] at hL_45
     refine WK.condF rfl (WK.exit ?_)
     refine QF.exit (hout_45 _ ?_)
     subst hL_45
     replace hL_26 := oexc_k hL_26; try dsimp only at hL_26
     refine WK.regx mixed (GX.m rfl (GX.m rfl (GX.m rfl ?_)))
     rcases obind_cases hL_26 with ⟨_, hL_26⟩ | ⟨x946, hx946, hL_26⟩
     ·subst hL_26
      first | replace hR := obind_n hR | replace hR := oexc_n hR
      cases hR
     try dsimp only at hL_26
     obtain ⟨hx9460, hx946j, hx946l, hx946⟩ := getI_some hx946
     refine GX.idxT (c := TCand.c) (x := x946) rfl rfl rfl hx9460 hx946 (GX.q (.agg (TCand.c x946)) (GX.step (v' := .own 13 10 0 (([x946] : List TCand)).length) (heap' := [(0, .box [.ptr 1 0, .own 4 3 0 c19.sets.length, .mapr 5]), (1, .box [.own 2 6 0 c19.t.l.length, .own 3 1 0 c19.t.free.length, .int .i64 c19.t.root, .int .i64 c19.t.n]), (2, .row 6 96 (c19.t.l.map TNode.c)), (3, .row 1 3 (c19.t.free.map c_i64)), (4, .row 3 68 (c19.sets.map TGroup.c)), (5, .mq c19.atf.1 (c19.atf.2.map (encE (fun y => .int .i64 y)))), (6, .box [.ptr 7 0, .own 10 3 0 c19.sets.length, .mapr 11]), (7, .box [.own 8 6 0 c19.t.l.length, .own 9 1 0 c19.t.free.length, .int .i64 c19.t.root, .int .i64 c19.t.n]), (8, .row 6 96 (c19.t.l.map TNode.c)), (9, .row 1 3 (c19.t.free.map c_i64)), (10, .row 3 68 (c19.sets.map TGroup.c)), (11, .mq c19.atf.1 (c19.atf.2.map (encE (fun y => .int .i64 y)))), (12, .row 10 34 (k9.map TCand.c)), (13, .row 10 34 (([x946] : List TCand).map TCand.c))]) (next' := 14) rfl rfl rfl rfl rfl rfl rfl ?_))
     rcases bool_two (decide (k9.length < 1099511627776)) with hg48 | hg48
     ·replace hL_26 := cond_f hg48 hL_26
      subst hL_26
      first | replace hR := obind_n hR | replace hR := oexc_n hR
      cases hR
     replace hL_26 := cond_t hg48 hL_26; try dsimp only at hL_26
     have hg48_ := of_decide_eq_true hg48
     refine GX.appT (c := TCand.c) (L := k9) (X := ([x946] : List TCand)) (heap' := [(0, .box [.ptr 1 0, .own 4 3 0 c19.sets.length, .mapr 5]), (1, .box [.own 2 6 0 c19.t.l.length, .own 3 1 0 c19.t.free.length, .int .i64 c19.t.root, .int .i64 c19.t.n]), (2, .row 6 96 (c19.t.l.map TNode.c)), (3, .row 1 3 (c19.t.free.map c_i64)), (4, .row 3 68 (c19.sets.map TGroup.c)), (5, .mq c19.atf.1 (c19.atf.2.map (encE (fun y => .int .i64 y)))), (6, .box [.ptr 7 0, .own 10 3 0 c19.sets.length, .mapr 11]), (7, .box [.own 8 6 0 c19.t.l.length, .own 9 1 0 c19.t.free.length, .int .i64 c19.t.root, .int .i64 c19.t.n]), (8, .row 6 96 (c19.t.l.map TNode.c)), (9, .row 1 3 (c19.t.free.map c_i64)), (10, .row 3 68 (c19.sets.map TGroup.c)), (11, .mq c19.atf.1 (c19.atf.2.map (encE (fun y => .int .i64 y)))), (13, .row 10 34 (([x946] : List TCand).map TCand.c)), (14, .row 10 34 ((k9 ++ ([x946] : List TCand)).map TCand.c))]) (next' := 15) rfl rfl rfl rfl (elems_own rfl) (by ((try simp only [List.length_append, List.length_cons, List.length_nil, List.length_map, decide_eq_true_eq, decide_eq_false_iff_not] at *) <;> omega)) (by ((try simp only [List.length_append, List.length_cons, List.length_nil, List.length_map, decide_eq_true_eq, decide_eq_false_iff_not] at *) <;> omega)) rfl rfl rfl rfl (GX.m rfl (GX.done ?_))
     refine WK.nil (QF.normal (hK44 _ ?_))
     refine WK.regx mixed (GX.m rfl (GX.q (.int .i64 (IntKind.i64.wrap (i10 - 1))) (GX.m rfl (GX.done ?_))))
     refine WK.nil (QF.normal ?_)
     refine hagain_26 _ f26 _ (Nat.lt_succ_self _) ?_ ⟨(IntKind.i64.wrap (i10 - 1)), (k9 ++ ([x946] : List TCand)), hL_26, rfl⟩
     exact Conv.keep [0, 1, 2, 3, 4, 5, 6, 7, 8, 9, 10, 11, 14] [] [0, 1, 2, 7, 8, 9, 10] rfl rfl (viewE_cons rfl rfl (viewE_cons rfl rfl (viewE_cons rfl rfl (viewE_cons rfl rfl (viewE_cons rfl rfl (viewE_cons rfl rfl (viewE_cons rfl rfl viewE_nil))))))) rfl rfl
    ·rw [hb46]
     obtain ⟨f45, rfl⟩ := fuel_pos hb46 hfu45
     rw [F3_crossroadslaw27_FibOrder_l2_u, hb46, cond_true] at hL_45; dsimp only at hL_45
     refine WK.condT rfl (WK.skip (WK.seq ?_))
     refine WK.blockK (fun _ hK49 => ?_)
     refine WK.seq (WK.drawn mixed (RD.m rfl (RD.m rfl ?_)))
     rcases obind_cases hL_45 with ⟨_, hL_45⟩ | ⟨x949, hx949, hL_45⟩
     ·subst hL_45
      first | replace hL_26 := obind_n hL_26 | replace hL_26 := oexc_n hL_26
      subst hL_26
      first | replace hR := obind_n hR | replace hR := oexc_n hR
      cases hR
     try dsimp only at hL_45
     obtain ⟨hx9490, hx949j, hx949l, hx949⟩ := getI_some hx949
     refine RD.idxT (c := TCand.c) (x := x949) rfl rfl rfl hx9490 hx949 (RD.q (.rptr (TCand.c x949)) (RD.q (.agg [.int .u32 x949.P.A, .int .i64 x949.P.N]) (RD.m rfl (RD.m rfl ?_))))
     rcases obind_cases hL_45 with ⟨_, hL_45⟩ | ⟨x950, hx950, hL_45⟩
     ·subst hL_45
      first | replace hL_26 := obind_n hL_26 | replace hL_26 := oexc_n hL_26
      subst hL_26
      first | replace hR := obind_n hR | replace hR := oexc_n hR
      cases hR
     try dsimp only at hL_45
     obtain ⟨hx9500, hx950j, hx950l, hx950⟩ := getI_some hx950
     refine RD.idxT (c := TCand.c) (x := x950) rfl rfl rfl hx9500 hx950 (RD.q (.rptr (TCand.c x950)) (RD.q (.agg [.int .u32 x950.P.A, .int .i64 x950.P.N]) (RD.q (.bool (decide (x949.P.A = x950.P.A) && (decide (x949.P.N = x950.P.N) && true))) (RD.done rfl ?_))))
     rcases bool_two ((decide (x949.P.A = x950.P.A) && (decide (x949.P.N = x950.P.N) && true))) with hb52 | hb52
     ·rw [hb52]; try simp only [hb52, bb] at hL_45
      refine WK.condF rfl (WK.skip ?_)
      refine WK.nil (QF.normal (hK49 _ ?_))
      refine WK.regx mixed (GX.m rfl (GX.q (.int .i64 (IntKind.i64.wrap (i11 + 1))) (GX.m rfl (GX.done ?_))))
      refine WK.nil (QF.normal ?_)
      refine hagain_45 _ f45 _ (Nat.lt_succ_self _) ?_ ⟨(IntKind.i64.wrap (i11 + 1)), fuel_up hb46 (by omega) hfu45, (by ((try simp only [List.length_append, List.length_cons, List.length_nil, decide_eq_true_eq, decide_eq_false_iff_not] at *) <;> first | omega | (rw [wrap64_of (by omega) (by omega)]; omega))), hL_45, rfl⟩
      exact Conv.keep [0, 1, 2, 3, 4, 5, 6, 7, 8, 9, 10, 11, 12] [] [0, 1, 2, 7, 8, 9, 10, 11] rfl rfl (viewE_cons rfl rfl (viewE_cons rfl rfl (viewE_cons rfl rfl (viewE_cons rfl rfl (viewE_cons rfl rfl (viewE_cons rfl rfl (viewE_cons rfl rfl (viewE_cons rfl rfl viewE_nil)))))))) rfl rfl
     ·rw [hb52]; try simp only [hb52, bb] at hL_45
      refine WK.condT rfl (WK.sr mixed ?_)
      rcases obind_cases hL_45 with ⟨_, hL_45⟩ | ⟨c62, hc62, hL_45⟩
      ·subst hL_45
       first | replace hL_26 := obind_n hL_26 | replace hL_26 := oexc_n hL_26
       subst hL_26
       first | replace hR := obind_n hR | replace hR := oexc_n hR
       cases hR
      try dsimp only at hL_45
      try dsimp only at hL_45
      refine GX.callp (r := .bool c62) rfl rfl rfl (f7_ok  _ hc62) rfl rfl (GX.m rfl (GX.done (WK.ret (QF.ret ?_))))
      refine QF.ret (hQ_45 _ _ ?_)
      refine QF.ret ?_
      refine QF.ret (hQ_26 _ _ ?_)
      subst hL_45
      first | replace hL_26 := oexc_e hL_26 | replace hL_26 := oexc_k hL_26 | replace hL_26 := obind_s hL_26
      try dsimp only at hL_26
      subst hL_26
      first | replace hR := oexc_e hR | replace hR := oexc_k hR | replace hR := obind_s hR
      try dsimp only at hR
      obtain rfl := Option.some.inj hR
      exact RetQ.fr [] (.inr rfl) rfl rfl rfl rfl
end Go.Proofs.YtakallenldpkiaaDoor.Abs
