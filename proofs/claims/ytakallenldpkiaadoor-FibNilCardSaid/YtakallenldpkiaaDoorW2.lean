/- The functions walked: each computes its Lean function (printed by this work's own program gen.py). -/
import Derived.Test.YtakallenldpkiaaDoorSb
import Derived.Test.YtakallenldpkiaaDoorW1
set_option linter.unusedVariables false
set_option linter.unusedSimpArgs false
set_option maxRecDepth 10000
set_option maxHeartbeats 4000000
namespace Go.Proofs.YtakallenldpkiaaDoor.Abs
open Go

theorem f14_ok (f0 : TFib) (p1 : TPrefix) (hops2 : List THop) (R : Int × TFib) (hR : F14_fib_Fib_Set f0 p1 hops2 = some R) : FnOk Tryd.prog 14 [.ptr 0 0, .agg (TPrefix.c p1), .ro 2 (hops2.map THop.c)] [(0, .box [.ptr 1 0, .own 4 3 0 f0.sets.length, .mapr 5]), (1, .box [.own 2 6 0 f0.t.l.length, .own 3 1 0 f0.t.free.length, .int .i64 f0.t.root, .int .i64 f0.t.n]), (2, .row 6 96 (f0.t.l.map TNode.c)), (3, .row 1 3 (f0.t.free.map c_i64)), (4, .row 3 68 (f0.sets.map TGroup.c)), (5, .mq f0.atf.1 (f0.atf.2.map (encE (fun y => .int .i64 y))))] 6 (.int .i64 R.1) [(0, .box [.ptr 1 0, .own 8 3 0 R.2.sets.length, .mapr 5]), (1, .box [.own 6 6 0 R.2.t.l.length, .own 7 1 0 R.2.t.free.length, .int .i64 R.2.t.root, .int .i64 R.2.t.n]), (5, .mq R.2.atf.1 (R.2.atf.2.map (encE (fun y => .int .i64 y)))), (6, .row 6 96 (R.2.t.l.map TNode.c)), (7, .row 1 3 (R.2.t.free.map c_i64)), (8, .row 3 68 (R.2.sets.map TGroup.c))] 9 := by
 refine FnOk.wk i14 rfl rfl ?_
 unfold F14_fib_Fib_Set at hR
 try dsimp only at hR
 change WK _ _ _ [ac14] _ ⟨[(0, .ptr 0 0), (1, .agg (TPrefix.c p1)), (2, .ro 2 (hops2.map THop.c))], [(0, .box [.ptr 1 0, .own 4 3 0 f0.sets.length, .mapr 5]), (1, .box [.own 2 6 0 f0.t.l.length, .own 3 1 0 f0.t.free.length, .int .i64 f0.t.root, .int .i64 f0.t.n]), (2, .row 6 96 (f0.t.l.map TNode.c)), (3, .row 1 3 (f0.t.free.map c_i64)), (4, .row 3 68 (f0.sets.map TGroup.c)), (5, .mq f0.atf.1 (f0.atf.2.map (encE (fun y => .int .i64 y))))], 6⟩
 unfold ac14
 refine WK.mvB (id := 1) (j := 0) (heap' := [(0, .box [.ptr 1 0, .own 4 3 0 f0.sets.length, .mapr 5]), (1, .box [.own 6 6 0 f0.t.l.length, .own 3 1 0 f0.t.free.length, .int .i64 f0.t.root, .int .i64 f0.t.n]), (3, .row 1 3 (f0.t.free.map c_i64)), (4, .row 3 68 (f0.sets.map TGroup.c)), (5, .mq f0.atf.1 (f0.atf.2.map (encE (fun y => .int .i64 y)))), (6, .row 6 96 (f0.t.l.map TNode.c))]) rfl rfl rfl (by simp) rfl ?_
 refine WK.mvB (id := 1) (j := 1) (heap' := [(0, .box [.ptr 1 0, .own 4 3 0 f0.sets.length, .mapr 5]), (1, .box [.own 6 6 0 f0.t.l.length, .own 7 1 0 f0.t.free.length, .int .i64 f0.t.root, .int .i64 f0.t.n]), (4, .row 3 68 (f0.sets.map TGroup.c)), (5, .mq f0.atf.1 (f0.atf.2.map (encE (fun y => .int .i64 y)))), (6, .row 6 96 (f0.t.l.map TNode.c)), (7, .row 1 3 (f0.t.free.map c_i64))]) rfl rfl rfl (by simp) rfl ?_
 refine WK.mvB (id := 0) (j := 1) (heap' := [(0, .box [.ptr 1 0, .own 8 3 0 f0.sets.length, .mapr 5]), (1, .box [.own 6 6 0 f0.t.l.length, .own 7 1 0 f0.t.free.length, .int .i64 f0.t.root, .int .i64 f0.t.n]), (5, .mq f0.atf.1 (f0.atf.2.map (encE (fun y => .int .i64 y)))), (6, .row 6 96 (f0.t.l.map TNode.c)), (7, .row 1 3 (f0.t.free.map c_i64)), (8, .row 3 68 (f0.sets.map TGroup.c))]) rfl rfl rfl (by simp) rfl ?_
 refine WK.sr mixed ?_
 refine GX.step (v' := .ptr 9 0) (heap' := [(0, .box [.ptr 1 0, .own 8 3 0 f0.sets.length, .mapr 5]), (1, .box [.own 6 6 0 f0.t.l.length, .own 7 1 0 f0.t.free.length, .int .i64 f0.t.root, .int .i64 f0.t.n]), (5, .mq f0.atf.1 (f0.atf.2.map (encE (fun y => .int .i64 y)))), (6, .row 6 96 (f0.t.l.map TNode.c)), (7, .row 1 3 (f0.t.free.map c_i64)), (8, .row 3 68 (f0.sets.map TGroup.c)), (9, .box (TPrefix.c p1))]) (next' := 10) rfl rfl rfl rfl rfl rfl rfl ?_
 refine GX.m rfl ?_
 refine GX.done ?_
 refine WK.sr mixed ?_
 refine GX.m rfl ?_
 obtain ⟨c10, hc10, hR⟩ := obind_inv hR; try dsimp only at hR
 try dsimp only at hR
 refine GX.callp (r := .ro 2 (c10.map THop.c)) rfl rfl rfl (f20_ok hops2 _ hc10) rfl rfl ?_
 refine GX.m rfl ?_
 refine GX.done ?_
 refine WK.seq ?_
 refine WK.sr mixed ?_
 refine GX.m rfl ?_
 refine GX.q (.bool false) ?_
 refine GX.m rfl ?_
 refine GX.q (.agg (TPrefix.c p1)) ?_
 generalize hc15 : F23_addr_May p1 = c15 at hR
 try dsimp only at hR
 refine GX.callp (r := .bool c15) rfl rfl rfl (f23_ok p1 _ hc15) rfl rfl ?_
 iterate 2 refine GX.q (.bool (!c15)) ?_
 refine GX.m rfl ?_
 rcases bool_two (c15) with hb1 | hb1
 ·rw [hb1]; first | replace hR := cond_f hb1 hR | (try simp only [hb1, bb] at hR)
  iterate 3 refine GX.skip rfl rfl ?_
  refine GX.q (.bool true) ?_
  refine GX.m rfl ?_
  iterate 3 refine GX.skip rfl rfl ?_
  refine GX.q (.bool true) ?_
  refine GX.done ?_
  refine WK.condT rfl ?_
  refine WK.sr mixed ?_
  refine GX.m rfl ?_
  refine GX.done ?_
  refine WK.ret ?_
  obtain rfl := Option.some.inj hR
  exact RetQ.ret [0, 1, 2, 3, 4, 5, 6, 7, 8] [] (.inr rfl) rfl rfl rfl rfl rfl .refl rfl
 ·rw [hb1]; first | replace hR := cond_t hb1 hR | (try simp only [hb1, bb] at hR)
  refine GX.m rfl ?_
  refine GX.pure (v' := .int .i64 (c10.length : Int)) rfl rfl rfl rfl (len_map _ _) ?_
  iterate 2 refine GX.q (.bool (decide ((c10.length : Int) = 0))) ?_
  refine GX.m rfl ?_
  rcases bool_two (decide ((c10.length : Int) = 0)) with hb2 | hb2
  ·rw [hb2]; first | replace hR := cond_f hb2 hR | (try simp only [hb2, bb] at hR)
   refine GX.m rfl ?_
   refine GX.pure (v' := .int .i64 (c10.length : Int)) rfl rfl rfl rfl (len_map _ _) ?_
   iterate 2 refine GX.q (.bool (decide (8 < (c10.length : Int)))) ?_
   refine GX.done ?_
   rcases bool_two (decide (8 < (c10.length : Int))) with hb3 | hb3
   ·rw [hb3]; first | replace hR := cond_f hb3 hR | (try simp only [hb3, bb] at hR)
    refine WK.condF rfl ?_
    refine WK.skip ?_
    refine WK.seq ?_
    refine WK.sr mixed ?_
    refine GX.m rfl ?_
    refine GX.q (.agg (TPrefix.c p1)) ?_
    refine GX.m rfl ?_
    obtain ⟨c31, hc31, hR⟩ := obind_inv hR; try dsimp only at hR
    try dsimp only at hR
    refine GX.callx (r' := .bool c31) (heap' := [(0, .box [.ptr 1 0, .own 8 3 0 f0.sets.length, .mapr 5]), (1, .box [.own 6 6 0 f0.t.l.length, .own 7 1 0 f0.t.free.length, .int .i64 f0.t.root, .int .i64 f0.t.n]), (5, .mq f0.atf.1 (f0.atf.2.map (encE (fun y => .int .i64 y)))), (6, .row 6 96 (f0.t.l.map TNode.c)), (7, .row 1 3 (f0.t.free.map c_i64)), (8, .row 3 68 (f0.sets.map TGroup.c)), (9, .box (TPrefix.c p1))]) (next' := 10) [0, 1, 6, 7, 8, 5] [] rfl rfl rfl rfl rfl rfl (f19_ok f0 p1 c10 _ hc31) (.inl rfl) rfl rfl rfl ?_
    refine GX.done ?_
    rcases bool_two (c31) with hb5 | hb5
    ·rw [hb5]; first | replace hR := cond_f hb5 hR | (try simp only [hb5, bb] at hR)
     refine WK.condF rfl ?_
     refine WK.skip ?_
     refine WK.seq ?_
     refine WK.sr mixed ?_
     refine GX.m rfl ?_
     refine GX.q (.agg (TPrefix.c p1)) ?_
     obtain ⟨c34, hc34, hR⟩ := obind_inv hR; try dsimp only at hR
     refine GX.callx (r' := .bool c34.1) (heap' := [(0, .box [.ptr 1 0, .own 12 3 0 c34.2.sets.length, .mapr 5]), (1, .box [.own 10 6 0 c34.2.t.l.length, .own 11 1 0 c34.2.t.free.length, .int .i64 c34.2.t.root, .int .i64 c34.2.t.n]), (5, .mq c34.2.atf.1 (c34.2.atf.2.map (encE (fun y => .int .i64 y)))), (9, .box (TPrefix.c p1)), (12, .row 3 68 (c34.2.sets.map TGroup.c)), (11, .row 1 3 (c34.2.t.free.map c_i64)), (10, .row 6 96 (c34.2.t.l.map TNode.c))]) (next' := 13) [0, 1, 6, 7, 8, 5] [] rfl rfl rfl rfl rfl rfl (f15_ok f0 p1 _ hc34) (.inl rfl) rfl rfl rfl ?_
     refine GX.q (.bool (!c34.1)) ?_
     refine GX.done ?_
     rcases bool_two (c34.1) with hb7 | hb7
     ·rw [hb7]; first | replace hR := cond_f hb7 hR | (try simp only [hb7, bb] at hR)
      refine WK.condT rfl ?_
      refine WK.seq ?_
      refine WK.drawn mixed ?_
      refine RD.m rfl ?_
      refine RD.nilc 0 rfl rfl rfl rfl rfl ?_
      refine RD.fldc 0 rfl rfl rfl rfl rfl ?_
      refine RD.loadc (.ptr 1 0) rfl rfl rfl rfl rfl ?_
      refine RD.q (.agg (TPrefix.c p1)) ?_
      obtain ⟨c41, hc41, hR⟩ := obind_inv hR; try dsimp only at hR
      refine RD.callx (r' := .int .i64 c41.1) (heap' := [(0, .box [.ptr 1 0, .own 12 3 0 c34.2.sets.length, .mapr 5]), (1, .box [.own 13 6 0 c41.2.l.length, .own 14 1 0 c41.2.free.length, .int .i64 c41.2.root, .int .i64 c41.2.n]), (5, .mq c34.2.atf.1 (c34.2.atf.2.map (encE (fun y => .int .i64 y)))), (9, .box (TPrefix.c p1)), (12, .row 3 68 (c34.2.sets.map TGroup.c)), (14, .row 1 3 (c41.2.free.map c_i64)), (13, .row 6 96 (c41.2.l.map TNode.c))]) (next' := 15) [1, 10, 11] [] rfl rfl rfl rfl rfl rfl (f24_ok c34.2.t p1 0 _ hc41) (.inl rfl) rfl rfl rfl ?_
      refine RD.m rfl ?_
      refine RD.done rfl ?_
      refine WK.sr mixed ?_
      refine GX.m rfl ?_
      refine GX.q (.bool (!decide (c41.1 = 0))) ?_
      refine GX.done ?_
      rcases bool_two (decide (c41.1 = 0)) with hb9 | hb9
      ·rw [hb9]; first | replace hR := cond_f hb9 hR | (try simp only [hb9, bb] at hR)
       refine WK.condT rfl ?_
       refine WK.sr mixed ?_
       iterate 2 refine GX.m rfl ?_
       refine GX.done ?_
       refine WK.ret ?_
       obtain rfl := Option.some.inj hR
       exact RetQ.ret [0, 1, 2, 3, 4, 5, 13, 14, 12] [] (.inr rfl) rfl rfl rfl rfl rfl .refl rfl
      ·rw [hb9]; first | replace hR := cond_t hb9 hR | (try simp only [hb9, bb] at hR)
       refine WK.condF rfl ?_
       refine WK.skip ?_
       refine WK.seq ?_
       refine WK.drawn mixed ?_
       refine RD.m rfl ?_
       refine RD.nilc 0 rfl rfl rfl rfl rfl ?_
       refine RD.fldc 0 rfl rfl rfl rfl rfl ?_
       refine RD.loadc (.ptr 1 0) rfl rfl rfl rfl rfl ?_
       refine RD.q (.agg (TPrefix.c p1)) ?_
       iterate 2 refine RD.m rfl ?_
       obtain ⟨c52, hc52, hR⟩ := obind_inv hR; try dsimp only at hR
       refine RD.callxk (r' := .int .i64 c52.1) (heap' := [(0, .box [.ptr 1 0, .own 17 3 0 c52.2.sets.length, .mapr 5]), (1, .box [.own 15 6 0 c52.2.t.l.length, .own 16 1 0 c52.2.t.free.length, .int .i64 c52.2.t.root, .int .i64 c52.2.t.n]), (5, .mq c52.2.atf.1 (c52.2.atf.2.map (encE (fun y => .int .i64 y)))), (9, .box (TPrefix.c p1)), (17, .row 3 68 (c52.2.sets.map TGroup.c)), (16, .row 1 3 (c52.2.t.free.map c_i64)), (15, .row 6 96 (c52.2.t.l.map TNode.c))]) (next' := 18) [(0, 0)] (by simp only [List.forall_mem_cons]; exact ⟨rfl, fun x hx => by cases hx⟩) [0, 1, 13, 14, 12, 5] [] rfl rfl rfl rfl rfl rfl (f25_ok (⟨c41.2, c34.2.sets, c34.2.atf⟩ : TFib) c10 _ hc52) (.inl rfl) rfl rfl rfl ?_
       obtain ⟨c53, hc53, hR⟩ := obind_inv hR; try dsimp only at hR
       refine RD.callx (r' := .int .i64 c53.1) (heap' := [(0, .box [.ptr 1 0, .own 17 3 0 c52.2.sets.length, .mapr 5]), (1, .box [.own 18 6 0 c53.2.l.length, .own 19 1 0 c53.2.free.length, .int .i64 c53.2.root, .int .i64 c53.2.n]), (5, .mq c52.2.atf.1 (c52.2.atf.2.map (encE (fun y => .int .i64 y)))), (9, .box (TPrefix.c p1)), (17, .row 3 68 (c52.2.sets.map TGroup.c)), (19, .row 1 3 (c53.2.free.map c_i64)), (18, .row 6 96 (c53.2.l.map TNode.c))]) (next' := 20) [1, 15, 16] [] rfl rfl rfl rfl rfl rfl (f24_ok c52.2.t p1 c52.1 _ hc53) (.inl rfl) rfl rfl rfl ?_
       refine RD.m rfl ?_
       refine RD.done rfl ?_
       refine WK.ret ?_
       obtain rfl := Option.some.inj hR
       exact RetQ.ret [0, 1, 2, 3, 4, 5, 18, 19, 17] [] (.inr rfl) rfl rfl rfl rfl rfl .refl rfl
     ·rw [hb7]; first | replace hR := cond_t hb7 hR | (try simp only [hb7, bb] at hR)
      refine WK.condF rfl ?_
      refine WK.skip ?_
      refine WK.seq ?_
      refine WK.drawn mixed ?_
      refine RD.m rfl ?_
      refine RD.nilc 0 rfl rfl rfl rfl rfl ?_
      refine RD.fldc 0 rfl rfl rfl rfl rfl ?_
      refine RD.loadc (.ptr 1 0) rfl rfl rfl rfl rfl ?_
      refine RD.q (.agg (TPrefix.c p1)) ?_
      iterate 2 refine RD.m rfl ?_
      obtain ⟨c52, hc52, hR⟩ := obind_inv hR; try dsimp only at hR
      refine RD.callxk (r' := .int .i64 c52.1) (heap' := [(0, .box [.ptr 1 0, .own 15 3 0 c52.2.sets.length, .mapr 5]), (1, .box [.own 13 6 0 c52.2.t.l.length, .own 14 1 0 c52.2.t.free.length, .int .i64 c52.2.t.root, .int .i64 c52.2.t.n]), (5, .mq c52.2.atf.1 (c52.2.atf.2.map (encE (fun y => .int .i64 y)))), (9, .box (TPrefix.c p1)), (15, .row 3 68 (c52.2.sets.map TGroup.c)), (14, .row 1 3 (c52.2.t.free.map c_i64)), (13, .row 6 96 (c52.2.t.l.map TNode.c))]) (next' := 16) [(0, 0)] (by simp only [List.forall_mem_cons]; exact ⟨rfl, fun x hx => by cases hx⟩) [0, 1, 10, 11, 12, 5] [] rfl rfl rfl rfl rfl rfl (f25_ok c34.2 c10 _ hc52) (.inl rfl) rfl rfl rfl ?_
      obtain ⟨c53, hc53, hR⟩ := obind_inv hR; try dsimp only at hR
      refine RD.callx (r' := .int .i64 c53.1) (heap' := [(0, .box [.ptr 1 0, .own 15 3 0 c52.2.sets.length, .mapr 5]), (1, .box [.own 16 6 0 c53.2.l.length, .own 17 1 0 c53.2.free.length, .int .i64 c53.2.root, .int .i64 c53.2.n]), (5, .mq c52.2.atf.1 (c52.2.atf.2.map (encE (fun y => .int .i64 y)))), (9, .box (TPrefix.c p1)), (15, .row 3 68 (c52.2.sets.map TGroup.c)), (17, .row 1 3 (c53.2.free.map c_i64)), (16, .row 6 96 (c53.2.l.map TNode.c))]) (next' := 18) [1, 13, 14] [] rfl rfl rfl rfl rfl rfl (f24_ok c52.2.t p1 c52.1 _ hc53) (.inl rfl) rfl rfl rfl ?_
      refine RD.m rfl ?_
      refine RD.done rfl ?_
      refine WK.ret ?_
      obtain rfl := Option.some.inj hR
      exact RetQ.ret [0, 1, 2, 3, 4, 5, 16, 17, 15] [] (.inr rfl) rfl rfl rfl rfl rfl .refl rfl
    ·rw [hb5]; first | replace hR := cond_t hb5 hR | (try simp only [hb5, bb] at hR)
     refine WK.condT rfl ?_
     refine WK.sr mixed ?_
     refine GX.m rfl ?_
     refine GX.done ?_
     refine WK.ret ?_
     obtain rfl := Option.some.inj hR
     exact RetQ.ret [0, 1, 2, 3, 4, 5, 6, 7, 8] [] (.inr rfl) rfl rfl rfl rfl rfl .refl rfl
   ·rw [hb3]; first | replace hR := cond_t hb3 hR | (try simp only [hb3, bb] at hR)
    refine WK.condT rfl ?_
    refine WK.sr mixed ?_
    refine GX.m rfl ?_
    refine GX.done ?_
    refine WK.ret ?_
    obtain rfl := Option.some.inj hR
    exact RetQ.ret [0, 1, 2, 3, 4, 5, 6, 7, 8] [] (.inr rfl) rfl rfl rfl rfl rfl .refl rfl
  ·rw [hb2]; first | replace hR := cond_t hb2 hR | (try simp only [hb2, bb] at hR)
   iterate 3 refine GX.skip rfl rfl ?_
   refine GX.q (.bool true) ?_
   refine GX.done ?_
   refine WK.condT rfl ?_
   refine WK.sr mixed ?_
   refine GX.m rfl ?_
   refine GX.done ?_
   refine WK.ret ?_
   obtain rfl := Option.some.inj hR
   exact RetQ.ret [0, 1, 2, 3, 4, 5, 6, 7, 8] [] (.inr rfl) rfl rfl rfl rfl rfl .refl rfl

theorem f14n_ok (p1 : TPrefix) (hops2 : List THop) (R : Int) (hR : F14n_fib_Fib_Set p1 hops2 = some R) : FnOk Tryd.prog 14 [.nilp, .agg (TPrefix.c p1), .ro 2 (hops2.map THop.c)] [] 0 (.int .i64 R) [] 0 := by
 refine FnOk.wk i14 rfl rfl ?_
 unfold F14n_fib_Fib_Set at hR
 try dsimp only at hR
 change WK _ _ _ [ac14] _ ⟨[(0, .nilp), (1, .agg (TPrefix.c p1)), (2, .ro 2 (hops2.map THop.c))], [], 0⟩
 unfold ac14
 refine WK.sr mixed ?_
 refine GX.step (v' := .ptr 0 0) (heap' := [(0, .box (TPrefix.c p1))]) (next' := 1) rfl rfl rfl rfl rfl rfl rfl ?_
 refine GX.m rfl ?_
 refine GX.done ?_
 refine WK.sr mixed ?_
 refine GX.m rfl ?_
 obtain ⟨c10, hc10, hR⟩ := obind_inv hR; try dsimp only at hR
 try dsimp only at hR
 refine GX.callp (r := .ro 2 (c10.map THop.c)) rfl rfl rfl (f20_ok hops2 _ hc10) rfl rfl ?_
 refine GX.m rfl ?_
 refine GX.done ?_
 refine WK.seq ?_
 refine WK.sr mixed ?_
 refine GX.m rfl ?_
 refine GX.q (.bool true) ?_
 refine GX.m rfl ?_
 iterate 3 refine GX.skip rfl rfl ?_
 refine GX.q (.bool true) ?_
 refine GX.m rfl ?_
 iterate 3 refine GX.skip rfl rfl ?_
 refine GX.q (.bool true) ?_
 refine GX.m rfl ?_
 iterate 3 refine GX.skip rfl rfl ?_
 refine GX.q (.bool true) ?_
 refine GX.done ?_
 refine WK.condT rfl ?_
 refine WK.sr mixed ?_
 refine GX.m rfl ?_
 refine GX.done ?_
 refine WK.ret ?_
 obtain rfl := Option.some.inj hR
 exact RetQ.fr [] (.inr rfl) rfl rfl rfl rfl

theorem f7_ok  (R : Bool) (hR : F7_crossroadslaw27_alive = some R) : FnOk Tryd.prog 7 [] [] 0 (.bool R) [] 0 := by
 refine FnOk.wk i7 rfl rfl ?_
 unfold F7_crossroadslaw27_alive at hR
 try dsimp only at hR
 change WK _ _ _ [ac7] _ ⟨[], [], 0⟩
 unfold ac7
 refine WK.sr mixed ?_
 refine GX.m rfl ?_
 refine GX.done ?_
 refine WK.sr mixed ?_
 generalize hc8 : F5_fib_New = c8 at hR
 try dsimp only at hR
 refine GX.callx (r' := .ptr 0 0) (heap' := [(5, .mq c8.atf.1 (c8.atf.2.map (encE (fun y => .int .i64 y)))), (4, .row 3 68 (c8.sets.map TGroup.c)), (3, .row 1 3 (c8.t.free.map c_i64)), (2, .row 6 96 (c8.t.l.map TNode.c)), (1, .box [.own 2 6 0 c8.t.l.length, .own 3 1 0 c8.t.free.length, .int .i64 c8.t.root, .int .i64 c8.t.n]), (0, .box [.ptr 1 0, .own 4 3 0 c8.sets.length, .mapr 5])]) (next' := 6) [] [] rfl rfl rfl rfl rfl rfl (f5_ok  _ hc8) (.inl rfl) rfl rfl rfl ?_
 refine GX.m rfl ?_
 refine GX.done ?_
 refine WK.seq ?_
 refine WK.sr mixed ?_
 refine GX.m rfl ?_
 refine GX.q (.bool false) ?_
 refine GX.done ?_
 refine WK.condF rfl ?_
 refine WK.skip ?_
 refine WK.sr mixed ?_
 refine GX.q (.agg [.int .i64 3, .int .u32 0]) ?_
 refine GX.q (.agg [.int .i64 1, .int .u32 0]) ?_
 refine GX.q (.agg [.int .i64 3, .int .u32 0]) ?_
 refine GX.step (v' := .own 6 2 0 (([(⟨3, 0⟩ : THop), (⟨1, 0⟩ : THop), (⟨3, 0⟩ : THop)] : List THop)).length) (heap' := [(5, .mq c8.atf.1 (c8.atf.2.map (encE (fun y => .int .i64 y)))), (4, .row 3 68 (c8.sets.map TGroup.c)), (3, .row 1 3 (c8.t.free.map c_i64)), (2, .row 6 96 (c8.t.l.map TNode.c)), (1, .box [.own 2 6 0 c8.t.l.length, .own 3 1 0 c8.t.free.length, .int .i64 c8.t.root, .int .i64 c8.t.n]), (0, .box [.ptr 1 0, .own 4 3 0 c8.sets.length, .mapr 5]), (6, .row 2 45 (([(⟨3, 0⟩ : THop), (⟨1, 0⟩ : THop), (⟨3, 0⟩ : THop)] : List THop).map THop.c))]) (next' := 7) rfl rfl rfl rfl rfl rfl rfl ?_
 refine GX.m rfl ?_
 refine GX.done ?_
 refine WK.seq ?_
 refine WK.conv (st' := ⟨[(1, .ptr 0 0), (2, .ro 2 (([(⟨3, 0⟩ : THop), (⟨1, 0⟩ : THop), (⟨3, 0⟩ : THop)] : List THop).map THop.c))], [(0, .box [.ptr 1 0, .own 4 3 0 c8.sets.length, .mapr 5]), (1, .box [.own 2 6 0 c8.t.l.length, .own 3 1 0 c8.t.free.length, .int .i64 c8.t.root, .int .i64 c8.t.n]), (2, .row 6 96 (c8.t.l.map TNode.c)), (3, .row 1 3 (c8.t.free.map c_i64)), (4, .row 3 68 (c8.sets.map TGroup.c)), (5, .mq c8.atf.1 (c8.atf.2.map (encE (fun y => .int .i64 y))))], 6⟩) (Conv.keep [0, 1, 2, 3, 4, 5] [6] [1, 2] rfl rfl (viewE_cons rfl rfl (viewE_cons rfl (view_rowT rfl rfl) viewE_nil)) rfl rfl) ?_ (by simp)
 refine WK.regx mixed ?_
 refine GX.m rfl ?_
 refine GX.q (.agg [.int .u32 0, .int .i64 0]) ?_
 refine GX.m rfl ?_
 obtain ⟨c18, hc18, hR⟩ := obind_inv hR; try dsimp only at hR
 refine GX.callx (r' := .int .i64 c18.1) (heap' := [(0, .box [.ptr 1 0, .own 8 3 0 c18.2.sets.length, .mapr 5]), (1, .box [.own 6 6 0 c18.2.t.l.length, .own 7 1 0 c18.2.t.free.length, .int .i64 c18.2.t.root, .int .i64 c18.2.t.n]), (5, .mq c18.2.atf.1 (c18.2.atf.2.map (encE (fun y => .int .i64 y)))), (8, .row 3 68 (c18.2.sets.map TGroup.c)), (7, .row 1 3 (c18.2.t.free.map c_i64)), (6, .row 6 96 (c18.2.t.l.map TNode.c))]) (next' := 9) [0, 1, 2, 3, 4, 5] [] rfl rfl rfl rfl rfl rfl (f14_ok c8 (⟨0, 0⟩ : TPrefix) ([(⟨3, 0⟩ : THop), (⟨1, 0⟩ : THop), (⟨3, 0⟩ : THop)] : List THop) _ hc18) (.inl rfl) rfl rfl rfl ?_
 refine GX.m rfl ?_
 refine GX.q (.agg [.int .u32 2147483648, .int .i64 1]) ?_
 refine GX.m rfl ?_
 obtain ⟨c22, hc22, hR⟩ := obind_inv hR; try dsimp only at hR
 refine GX.callx (r' := .int .i64 c22.1) (heap' := [(0, .box [.ptr 1 0, .own 11 3 0 c22.2.sets.length, .mapr 5]), (1, .box [.own 9 6 0 c22.2.t.l.length, .own 10 1 0 c22.2.t.free.length, .int .i64 c22.2.t.root, .int .i64 c22.2.t.n]), (5, .mq c22.2.atf.1 (c22.2.atf.2.map (encE (fun y => .int .i64 y)))), (11, .row 3 68 (c22.2.sets.map TGroup.c)), (10, .row 1 3 (c22.2.t.free.map c_i64)), (9, .row 6 96 (c22.2.t.l.map TNode.c))]) (next' := 12) [0, 1, 6, 7, 8, 5] [] rfl rfl rfl rfl rfl rfl (f14_ok c18.2 (⟨2147483648, 1⟩ : TPrefix) ([(⟨3, 0⟩ : THop), (⟨1, 0⟩ : THop), (⟨3, 0⟩ : THop)] : List THop) _ hc22) (.inl rfl) rfl rfl rfl ?_
 iterate 2 refine GX.m rfl ?_
 refine GX.done ?_
 refine WK.sr mixed ?_
 refine GX.m rfl ?_
 obtain ⟨c25, hc25, hR⟩ := obind_inv hR; try dsimp only at hR
 refine GX.callx (r' := .tup [.agg (TPrefix.c c25.1), .ro 2 (c25.2.1.map THop.c), .bool c25.2.2]) (heap' := [(0, .box [.ptr 1 0, .own 11 3 0 c22.2.sets.length, .mapr 5]), (1, .box [.own 9 6 0 c22.2.t.l.length, .own 10 1 0 c22.2.t.free.length, .int .i64 c22.2.t.root, .int .i64 c22.2.t.n]), (5, .mq c22.2.atf.1 (c22.2.atf.2.map (encE (fun y => .int .i64 y)))), (11, .row 3 68 (c22.2.sets.map TGroup.c)), (10, .row 1 3 (c22.2.t.free.map c_i64)), (9, .row 6 96 (c22.2.t.l.map TNode.c))]) (next' := 12) [0, 1, 9, 10, 11, 5] [] rfl rfl rfl rfl rfl rfl (f9_ok c22.2 2147483648 _ hc25) (.inl rfl) rfl rfl rfl ?_
 refine GX.m rfl ?_
 refine GX.q (.agg (TPrefix.c c25.1)) ?_
 refine GX.q (.ro 2 (c25.2.1.map THop.c)) ?_
 refine GX.q (.bool c25.2.2) ?_
 refine GX.step (v' := .ptr 12 0) (heap' := [(0, .box [.ptr 1 0, .own 11 3 0 c22.2.sets.length, .mapr 5]), (1, .box [.own 9 6 0 c22.2.t.l.length, .own 10 1 0 c22.2.t.free.length, .int .i64 c22.2.t.root, .int .i64 c22.2.t.n]), (5, .mq c22.2.atf.1 (c22.2.atf.2.map (encE (fun y => .int .i64 y)))), (11, .row 3 68 (c22.2.sets.map TGroup.c)), (10, .row 1 3 (c22.2.t.free.map c_i64)), (9, .row 6 96 (c22.2.t.l.map TNode.c)), (12, .box [.int .u32 0, .int .i64 0])]) (next' := 13) rfl rfl rfl rfl rfl rfl rfl ?_
 refine GX.step0 (heap' := [(0, .box [.ptr 1 0, .own 11 3 0 c22.2.sets.length, .mapr 5]), (1, .box [.own 9 6 0 c22.2.t.l.length, .own 10 1 0 c22.2.t.free.length, .int .i64 c22.2.t.root, .int .i64 c22.2.t.n]), (5, .mq c22.2.atf.1 (c22.2.atf.2.map (encE (fun y => .int .i64 y)))), (11, .row 3 68 (c22.2.sets.map TGroup.c)), (10, .row 1 3 (c22.2.t.free.map c_i64)), (9, .row 6 96 (c22.2.t.l.map TNode.c)), (12, .box (TPrefix.c c25.1))]) (next' := 13) rfl rfl rfl rfl rfl ?_
 iterate 2 refine GX.m rfl ?_
 refine GX.done ?_
 refine WK.sr mixed ?_
 refine GX.m rfl ?_
 refine GX.q (.bool (decide (c18.1 = 0))) ?_
 refine GX.m rfl ?_
 rcases bool_two (decide (c18.1 = 0)) with hb5 | hb5
 ·rw [hb5]; first | replace hR := cond_f hb5 hR | (try simp only [hb5, bb] at hR)
  iterate 2 refine GX.skip rfl rfl ?_
  refine GX.q (.bool false) ?_
  refine GX.m rfl ?_
  iterate 3 refine GX.skip rfl rfl ?_
  refine GX.q (.bool false) ?_
  refine GX.m rfl ?_
  refine GX.skip rfl rfl ?_
  refine GX.q (.bool false) ?_
  refine GX.m rfl ?_
  iterate 3 refine GX.skip rfl rfl ?_
  refine GX.q (.bool false) ?_
  refine GX.m rfl ?_
  iterate 3 refine GX.skip rfl rfl ?_
  refine GX.q (.bool false) ?_
  refine GX.m rfl ?_
  iterate 5 refine GX.skip rfl rfl ?_
  refine GX.q (.bool false) ?_
  refine GX.m rfl ?_
  refine GX.done ?_
  refine WK.ret ?_
  obtain rfl := Option.some.inj hR
  exact RetQ.fr [] (.inr rfl) rfl rfl rfl rfl
 ·rw [hb5]; first | replace hR := cond_t hb5 hR | (try simp only [hb5, bb] at hR)
  refine GX.m rfl ?_
  iterate 2 refine GX.q (.bool (decide (c22.1 = 0))) ?_
  refine GX.m rfl ?_
  rcases bool_two (decide (c22.1 = 0)) with hb6 | hb6
  ·rw [hb6]; first | replace hR := cond_f hb6 hR | (try simp only [hb6, bb] at hR)
   iterate 3 refine GX.skip rfl rfl ?_
   refine GX.q (.bool false) ?_
   refine GX.m rfl ?_
   refine GX.skip rfl rfl ?_
   refine GX.q (.bool false) ?_
   refine GX.m rfl ?_
   iterate 3 refine GX.skip rfl rfl ?_
   refine GX.q (.bool false) ?_
   refine GX.m rfl ?_
   iterate 3 refine GX.skip rfl rfl ?_
   refine GX.q (.bool false) ?_
   refine GX.m rfl ?_
   iterate 5 refine GX.skip rfl rfl ?_
   refine GX.q (.bool false) ?_
   refine GX.m rfl ?_
   refine GX.done ?_
   refine WK.ret ?_
   obtain rfl := Option.some.inj hR
   exact RetQ.fr [] (.inr rfl) rfl rfl rfl rfl
  ·rw [hb6]; first | replace hR := cond_t hb6 hR | (try simp only [hb6, bb] at hR)
   refine GX.m rfl ?_
   obtain ⟨c37, hc37, hR⟩ := obind_inv hR; try dsimp only at hR
   try dsimp only at hR
   refine GX.callx (r' := .int .i64 c37) (heap' := [(0, .box [.ptr 1 0, .own 11 3 0 c22.2.sets.length, .mapr 5]), (1, .box [.own 9 6 0 c22.2.t.l.length, .own 10 1 0 c22.2.t.free.length, .int .i64 c22.2.t.root, .int .i64 c22.2.t.n]), (5, .mq c22.2.atf.1 (c22.2.atf.2.map (encE (fun y => .int .i64 y)))), (11, .row 3 68 (c22.2.sets.map TGroup.c)), (10, .row 1 3 (c22.2.t.free.map c_i64)), (9, .row 6 96 (c22.2.t.l.map TNode.c)), (12, .box (TPrefix.c c25.1))]) (next' := 13) [0, 1, 9, 10, 11, 5] [] rfl rfl rfl rfl rfl rfl (f12_ok c22.2 _ hc37) (.inl rfl) rfl rfl rfl ?_
   iterate 2 refine GX.q (.bool (decide (c37 = 1))) ?_
   refine GX.m rfl ?_
   rcases bool_two (decide (c37 = 1)) with hb8 | hb8
   ·rw [hb8]; first | replace hR := cond_f hb8 hR | (try simp only [hb8, bb] at hR)
    refine GX.skip rfl rfl ?_
    refine GX.q (.bool false) ?_
    refine GX.m rfl ?_
    iterate 3 refine GX.skip rfl rfl ?_
    refine GX.q (.bool false) ?_
    refine GX.m rfl ?_
    iterate 3 refine GX.skip rfl rfl ?_
    refine GX.q (.bool false) ?_
    refine GX.m rfl ?_
    iterate 5 refine GX.skip rfl rfl ?_
    refine GX.q (.bool false) ?_
    refine GX.m rfl ?_
    refine GX.done ?_
    refine WK.ret ?_
    obtain rfl := Option.some.inj hR
    exact RetQ.fr [] (.inr rfl) rfl rfl rfl rfl
   ·rw [hb8]; first | replace hR := cond_t hb8 hR | (try simp only [hb8, bb] at hR)
    refine GX.m rfl ?_
    refine GX.q (.bool c25.2.2) ?_
    refine GX.m rfl ?_
    rcases bool_two (c25.2.2) with hb9 | hb9
    ·rw [hb9]; first | replace hR := cond_f hb9 hR | (try simp only [hb9, bb] at hR)
     iterate 3 refine GX.skip rfl rfl ?_
     refine GX.q (.bool false) ?_
     refine GX.m rfl ?_
     iterate 3 refine GX.skip rfl rfl ?_
     refine GX.q (.bool false) ?_
     refine GX.m rfl ?_
     iterate 5 refine GX.skip rfl rfl ?_
     refine GX.q (.bool false) ?_
     refine GX.m rfl ?_
     refine GX.done ?_
     refine WK.ret ?_
     obtain rfl := Option.some.inj hR
     exact RetQ.fr [] (.inr rfl) rfl rfl rfl rfl
    ·rw [hb9]; first | replace hR := cond_t hb9 hR | (try simp only [hb9, bb] at hR)
     refine GX.q (.ptr 12 1) ?_
     refine GX.q (.int .i64 c25.1.N) ?_
     iterate 2 refine GX.q (.bool (decide (c25.1.N = 1))) ?_
     refine GX.m rfl ?_
     rcases bool_two (decide (c25.1.N = 1)) with hb10 | hb10
     ·rw [hb10]; first | replace hR := cond_f hb10 hR | (try simp only [hb10, bb] at hR)
      iterate 3 refine GX.skip rfl rfl ?_
      refine GX.q (.bool false) ?_
      refine GX.m rfl ?_
      iterate 5 refine GX.skip rfl rfl ?_
      refine GX.q (.bool false) ?_
      refine GX.m rfl ?_
      refine GX.done ?_
      refine WK.ret ?_
      obtain rfl := Option.some.inj hR
      exact RetQ.fr [] (.inr rfl) rfl rfl rfl rfl
     ·rw [hb10]; first | replace hR := cond_t hb10 hR | (try simp only [hb10, bb] at hR)
      refine GX.m rfl ?_
      refine GX.pure (v' := .int .i64 (c25.2.1.length : Int)) rfl rfl rfl rfl (len_map _ _) ?_
      iterate 2 refine GX.q (.bool (decide ((c25.2.1.length : Int) = 2))) ?_
      refine GX.m rfl ?_
      rcases bool_two (decide ((c25.2.1.length : Int) = 2)) with hb11 | hb11
      ·rw [hb11]; first | replace hR := cond_f hb11 hR | (try simp only [hb11, bb] at hR)
       iterate 5 refine GX.skip rfl rfl ?_
       refine GX.q (.bool false) ?_
       refine GX.m rfl ?_
       refine GX.done ?_
       refine WK.ret ?_
       obtain rfl := Option.some.inj hR
       exact RetQ.fr [] (.inr rfl) rfl rfl rfl rfl
      ·rw [hb11]; first | replace hR := cond_t hb11 hR | (try simp only [hb11, bb] at hR)
       refine GX.m rfl ?_
       obtain ⟨x911, hx911, hR⟩ := obind_inv hR; try dsimp only at hR
       obtain ⟨hx9110, hx911j, hx911l, hx911⟩ := getI_some hx911
       refine GX.idxT (c := THop.c) (x := x911) rfl rfl rfl hx9110 hx911 ?_
       refine GX.q (.rptr (THop.c x911)) ?_
       refine GX.q (.int .i64 x911.Iface) ?_
       iterate 2 refine GX.q (.bool (decide (x911.Iface = 1))) ?_
       refine GX.m rfl ?_
       refine GX.done ?_
       refine WK.ret ?_
       obtain rfl := Option.some.inj hR
       exact RetQ.fr [] (.inr rfl) rfl rfl rfl rfl

theorem f45_ok (fuel : Nat) : ∀ (i0 : Int) (a1 : TTrie) (a2 : TPrefix) (a3 : List TEntry) (R : (List TEntry)) (hR : F45_trie_Trie_Below_1 fuel i0 a1 a2 a3 = some R), FnOk Tryd.prog 45 [.int .i64 i0, .ptr 6 0, .ptr 1 0, .ptr 2 0, .ptr 7 0] [(0, .box [.own 3 6 0 a1.l.length, .own 4 1 0 a1.free.length, .int .i64 a1.root, .int .i64 a1.n]), (1, .box (TPrefix.c a2)), (2, .box [.own 5 3 0 a3.length]), (3, .row 6 96 (a1.l.map TNode.c)), (4, .row 1 3 (a1.free.map c_i64)), (5, .row 3 62 (a3.map TEntry.c)), (6, .box [.ptr 0 0]), (7, .box [.fn 45 [] [.ptr 6 0, .ptr 1 0, .ptr 2 0, .ptr 7 0]])] 8 (.tup []) [(0, .box [.own 3 6 0 a1.l.length, .own 4 1 0 a1.free.length, .int .i64 a1.root, .int .i64 a1.n]), (1, .box (TPrefix.c a2)), (2, .box [.own 8 3 0 R.length]), (3, .row 6 96 (a1.l.map TNode.c)), (4, .row 1 3 (a1.free.map c_i64)), (6, .box [.ptr 0 0]), (7, .box [.fn 45 [] [.ptr 6 0, .ptr 1 0, .ptr 2 0, .ptr 7 0]]), (8, .row 3 62 (R.map TEntry.c))] 9 := by
 induction fuel with
 | zero => intro i0 a1 a2 a3 R hR; cases hR
 | succ fuel ih =>
  intro i0 a1 a2 a3 R hR
  refine FnOk.wk i45 rfl rfl ?_
  unfold F45_trie_Trie_Below_1 at hR
  try dsimp only at hR
  change WK _ _ _ [ac45] _ ⟨[(0, .int .i64 i0), (1, .ptr 6 0), (2, .ptr 1 0), (3, .ptr 2 0), (4, .ptr 7 0)], [(0, .box [.own 3 6 0 a1.l.length, .own 4 1 0 a1.free.length, .int .i64 a1.root, .int .i64 a1.n]), (1, .box (TPrefix.c a2)), (2, .box [.own 5 3 0 a3.length]), (3, .row 6 96 (a1.l.map TNode.c)), (4, .row 1 3 (a1.free.map c_i64)), (5, .row 3 62 (a3.map TEntry.c)), (6, .box [.ptr 0 0]), (7, .box [.fn 45 [] [.ptr 6 0, .ptr 1 0, .ptr 2 0, .ptr 7 0]])], 8⟩
  unfold ac45
  refine WK.mvB (id := 2) (j := 0) (heap' := [(0, .box [.own 3 6 0 a1.l.length, .own 4 1 0 a1.free.length, .int .i64 a1.root, .int .i64 a1.n]), (1, .box (TPrefix.c a2)), (2, .box [.own 8 3 0 a3.length]), (3, .row 6 96 (a1.l.map TNode.c)), (4, .row 1 3 (a1.free.map c_i64)), (6, .box [.ptr 0 0]), (7, .box [.fn 45 [] [.ptr 6 0, .ptr 1 0, .ptr 2 0, .ptr 7 0]]), (8, .row 3 62 (a3.map TEntry.c))]) rfl rfl rfl (by simp) rfl ?_
  refine WK.seq ?_
  refine WK.sr mixed ?_
  refine GX.m rfl ?_
  refine GX.q (.bool (decide (i0 = (-1)))) ?_
  refine GX.done ?_
  rcases bool_two (decide (i0 = (-1))) with hb1 | hb1
  ·rw [hb1]; first | replace hR := cond_f hb1 hR | (try simp only [hb1, bb] at hR)
   refine WK.condF rfl ?_
   refine WK.skip ?_
   refine WK.sr mixed ?_
   iterate 3 refine GX.q (.ptr 0 0) ?_
   refine GX.q (.own 3 6 0 a1.l.length) ?_
   refine GX.m rfl ?_
   obtain ⟨x901, hx901, hR⟩ := obind_inv hR; try dsimp only at hR
   obtain ⟨hx9010, hx901j, hx901l, hx901⟩ := getI_some hx901
   refine GX.pure (v' := .eptr 3 6 i0.toNat 0) rfl rfl rfl (core_idxoT (c := TNode.c) (L := a1.l) (j := i0.toNat) rfl hx901j hx901l (by exact Nat.le_refl _)) rfl ?_
   refine GX.pure (v' := .agg (TNode.c x901)) rfl rfl rfl (core_loaT (c := TNode.c) (L := a1.l) (x := x901) rfl hx901 rfl) rfl ?_
   refine GX.step (v' := .ptr 9 0) (heap' := [(0, .box [.own 3 6 0 a1.l.length, .own 4 1 0 a1.free.length, .int .i64 a1.root, .int .i64 a1.n]), (1, .box (TPrefix.c a2)), (2, .box [.own 8 3 0 a3.length]), (3, .row 6 96 (a1.l.map TNode.c)), (4, .row 1 3 (a1.free.map c_i64)), (6, .box [.ptr 0 0]), (7, .box [.fn 45 [] [.ptr 6 0, .ptr 1 0, .ptr 2 0, .ptr 7 0]]), (8, .row 3 62 (a3.map TEntry.c)), (9, .box [.int .u32 0, .int .i64 0, .int .i64 0, .bool false, .int .i64 0, .int .i64 0])]) (next' := 10) rfl rfl rfl rfl rfl rfl rfl ?_
   refine GX.step0 (heap' := [(0, .box [.own 3 6 0 a1.l.length, .own 4 1 0 a1.free.length, .int .i64 a1.root, .int .i64 a1.n]), (1, .box (TPrefix.c a2)), (2, .box [.own 8 3 0 a3.length]), (3, .row 6 96 (a1.l.map TNode.c)), (4, .row 1 3 (a1.free.map c_i64)), (6, .box [.ptr 0 0]), (7, .box [.fn 45 [] [.ptr 6 0, .ptr 1 0, .ptr 2 0, .ptr 7 0]]), (8, .row 3 62 (a3.map TEntry.c)), (9, .box (TNode.c x901))]) (next' := 10) rfl rfl rfl rfl rfl ?_
   refine GX.done ?_
   refine WK.seq ?_
   refine WK.sr mixed ?_
   refine GX.q (.ptr 9 3) ?_
   refine GX.q (.bool x901.isf) ?_
   refine GX.m rfl ?_
   rcases bool_two (x901.isf) with hb3 | hb3
   ·rw [hb3]; first | replace hR := cond_f hb3 hR | (try simp only [hb3, bb] at hR)
    iterate 4 refine GX.skip rfl rfl ?_
    refine GX.q (.bool false) ?_
    refine GX.done ?_
    refine WK.condF rfl ?_
    refine WK.skip ?_
    refine WK.sr mixed ?_
    refine GX.q (.agg (TPrefix.c a2)) ?_
    refine GX.q (.ptr 9 0) ?_
    refine GX.q (.agg [.int .u32 x901.p.A, .int .i64 x901.p.N]) ?_
    generalize hc35 : F46_addr_Covers a2 x901.p = c35 at hR
    try dsimp only at hR
    refine GX.callp (r := .bool c35) rfl rfl rfl (f46_ok a2 x901.p _ hc35) rfl rfl ?_
    refine GX.m rfl ?_
    rcases bool_two (c35) with hb4 | hb4
    ·rw [hb4]; first | replace hR := cond_f hb4 hR | (try simp only [hb4, bb] at hR)
     refine GX.q (.ptr 9 0) ?_
     refine GX.q (.agg [.int .u32 x901.p.A, .int .i64 x901.p.N]) ?_
     refine GX.q (.agg (TPrefix.c a2)) ?_
     generalize hc40 : F46_addr_Covers x901.p a2 = c40 at hR
     try dsimp only at hR
     refine GX.callp (r := .bool c40) rfl rfl rfl (f46_ok x901.p a2 _ hc40) rfl rfl ?_
     refine GX.q (.bool c40) ?_
     refine GX.done ?_
     rcases bool_two (c40) with hb5 | hb5
     ·rw [hb5]; first | replace hR := cond_f hb5 hR | (try simp only [hb5, bb] at hR)
      refine WK.condF rfl ?_
      refine WK.skip ?_
      refine WK.nil ?_
      obtain rfl := Option.some.inj hR
      exact RetQ.ret [0, 1, 2, 3, 4, 5, 6, 7, 8] [] (.inl rfl) rfl rfl rfl rfl rfl .refl rfl
     ·rw [hb5]; first | replace hR := cond_t hb5 hR | (try simp only [hb5, bb] at hR)
      refine WK.condT rfl ?_
      refine WK.sr mixed ?_
      refine GX.q (.fn 45 [] [.ptr 6 0, .ptr 1 0, .ptr 2 0, .ptr 7 0]) ?_
      iterate 2 refine GX.q (.ptr 9 4) ?_
      refine GX.q (.int .i64 x901.kids.e0) ?_
      obtain ⟨c46, hc46, hR⟩ := obind_inv hR; try dsimp only at hR
      try dsimp only at hR
      refine GX.callvx (r' := .tup []) (heap' := [(0, .box [.own 3 6 0 a1.l.length, .own 4 1 0 a1.free.length, .int .i64 a1.root, .int .i64 a1.n]), (1, .box (TPrefix.c a2)), (2, .box [.own 10 3 0 c46.length]), (3, .row 6 96 (a1.l.map TNode.c)), (4, .row 1 3 (a1.free.map c_i64)), (6, .box [.ptr 0 0]), (7, .box [.fn 45 [] [.ptr 6 0, .ptr 1 0, .ptr 2 0, .ptr 7 0]]), (9, .box (TNode.c x901)), (10, .row 3 62 (c46.map TEntry.c))]) (next' := 11) [0, 1, 2, 3, 4, 8, 6, 7] [] rfl rfl rfl rfl rfl rfl (ih x901.kids.e0 a1 a2 a3 _ hc46) (.inl rfl) rfl rfl rfl ?_
      refine GX.done ?_
      refine WK.regx mixed ?_
      refine GX.q (.fn 45 [] [.ptr 6 0, .ptr 1 0, .ptr 2 0, .ptr 7 0]) ?_
      refine GX.q (.ptr 9 4) ?_
      refine GX.q (.ptr 9 5) ?_
      refine GX.q (.int .i64 x901.kids.e1) ?_
      obtain ⟨c51, hc51, hR⟩ := obind_inv hR; try dsimp only at hR
      try dsimp only at hR
      refine GX.callvx (r' := .tup []) (heap' := [(0, .box [.own 3 6 0 a1.l.length, .own 4 1 0 a1.free.length, .int .i64 a1.root, .int .i64 a1.n]), (1, .box (TPrefix.c a2)), (2, .box [.own 11 3 0 c51.length]), (3, .row 6 96 (a1.l.map TNode.c)), (4, .row 1 3 (a1.free.map c_i64)), (6, .box [.ptr 0 0]), (7, .box [.fn 45 [] [.ptr 6 0, .ptr 1 0, .ptr 2 0, .ptr 7 0]]), (9, .box (TNode.c x901)), (11, .row 3 62 (c51.map TEntry.c))]) (next' := 12) [0, 1, 2, 3, 4, 10, 6, 7] [] rfl rfl rfl rfl rfl rfl (ih x901.kids.e1 a1 a2 c46 _ hc51) (.inl rfl) rfl rfl rfl ?_
      refine GX.done ?_
      refine WK.nil ?_
      obtain rfl := Option.some.inj hR
      exact RetQ.ret [0, 1, 2, 3, 4, 5, 6, 7, 11] [] (.inl rfl) rfl rfl rfl rfl rfl .refl rfl
    ·rw [hb4]; first | replace hR := cond_t hb4 hR | (try simp only [hb4, bb] at hR)
     iterate 4 refine GX.skip rfl rfl ?_
     refine GX.q (.bool true) ?_
     refine GX.done ?_
     refine WK.condT rfl ?_
     refine WK.sr mixed ?_
     refine GX.q (.fn 45 [] [.ptr 6 0, .ptr 1 0, .ptr 2 0, .ptr 7 0]) ?_
     iterate 2 refine GX.q (.ptr 9 4) ?_
     refine GX.q (.int .i64 x901.kids.e0) ?_
     obtain ⟨c46, hc46, hR⟩ := obind_inv hR; try dsimp only at hR
     try dsimp only at hR
     refine GX.callvx (r' := .tup []) (heap' := [(0, .box [.own 3 6 0 a1.l.length, .own 4 1 0 a1.free.length, .int .i64 a1.root, .int .i64 a1.n]), (1, .box (TPrefix.c a2)), (2, .box [.own 10 3 0 c46.length]), (3, .row 6 96 (a1.l.map TNode.c)), (4, .row 1 3 (a1.free.map c_i64)), (6, .box [.ptr 0 0]), (7, .box [.fn 45 [] [.ptr 6 0, .ptr 1 0, .ptr 2 0, .ptr 7 0]]), (9, .box (TNode.c x901)), (10, .row 3 62 (c46.map TEntry.c))]) (next' := 11) [0, 1, 2, 3, 4, 8, 6, 7] [] rfl rfl rfl rfl rfl rfl (ih x901.kids.e0 a1 a2 a3 _ hc46) (.inl rfl) rfl rfl rfl ?_
     refine GX.done ?_
     refine WK.regx mixed ?_
     refine GX.q (.fn 45 [] [.ptr 6 0, .ptr 1 0, .ptr 2 0, .ptr 7 0]) ?_
     refine GX.q (.ptr 9 4) ?_
     refine GX.q (.ptr 9 5) ?_
     refine GX.q (.int .i64 x901.kids.e1) ?_
     obtain ⟨c51, hc51, hR⟩ := obind_inv hR; try dsimp only at hR
     try dsimp only at hR
     refine GX.callvx (r' := .tup []) (heap' := [(0, .box [.own 3 6 0 a1.l.length, .own 4 1 0 a1.free.length, .int .i64 a1.root, .int .i64 a1.n]), (1, .box (TPrefix.c a2)), (2, .box [.own 11 3 0 c51.length]), (3, .row 6 96 (a1.l.map TNode.c)), (4, .row 1 3 (a1.free.map c_i64)), (6, .box [.ptr 0 0]), (7, .box [.fn 45 [] [.ptr 6 0, .ptr 1 0, .ptr 2 0, .ptr 7 0]]), (9, .box (TNode.c x901)), (11, .row 3 62 (c51.map TEntry.c))]) (next' := 12) [0, 1, 2, 3, 4, 10, 6, 7] [] rfl rfl rfl rfl rfl rfl (ih x901.kids.e1 a1 a2 c46 _ hc51) (.inl rfl) rfl rfl rfl ?_
     refine GX.done ?_
     refine WK.nil ?_
     obtain rfl := Option.some.inj hR
     exact RetQ.ret [0, 1, 2, 3, 4, 5, 6, 7, 11] [] (.inl rfl) rfl rfl rfl rfl rfl .refl rfl
   ·rw [hb3]; first | replace hR := cond_t hb3 hR | (try simp only [hb3, bb] at hR)
    refine GX.q (.agg (TPrefix.c a2)) ?_
    refine GX.q (.ptr 9 0) ?_
    refine GX.q (.agg [.int .u32 x901.p.A, .int .i64 x901.p.N]) ?_
    generalize hc22 : F46_addr_Covers a2 x901.p = c22 at hR
    try dsimp only at hR
    refine GX.callp (r := .bool c22) rfl rfl rfl (f46_ok a2 x901.p _ hc22) rfl rfl ?_
    refine GX.q (.bool c22) ?_
    refine GX.done ?_
    rcases bool_two (c22) with hb10 | hb10
    ·rw [hb10]; first | replace hR := cond_f hb10 hR | (try simp only [hb10, bb] at hR)
     refine WK.condF rfl ?_
     refine WK.skip ?_
     refine WK.sr mixed ?_
     refine GX.q (.agg (TPrefix.c a2)) ?_
     refine GX.q (.ptr 9 0) ?_
     refine GX.q (.agg [.int .u32 x901.p.A, .int .i64 x901.p.N]) ?_
     refine GX.callp (r := .bool c22) rfl rfl rfl (f46_ok a2 x901.p _ hc22) rfl rfl ?_
     refine GX.pure (v' := .bool false) rfl rfl rfl rfl (congrArg PVal.bool hb10) ?_
     refine GX.q (.ptr 9 0) ?_
     refine GX.q (.agg [.int .u32 x901.p.A, .int .i64 x901.p.N]) ?_
     refine GX.q (.agg (TPrefix.c a2)) ?_
     generalize hc40 : F46_addr_Covers x901.p a2 = c40 at hR
     try dsimp only at hR
     refine GX.callp (r := .bool c40) rfl rfl rfl (f46_ok x901.p a2 _ hc40) rfl rfl ?_
     refine GX.q (.bool c40) ?_
     refine GX.done ?_
     rcases bool_two (c40) with hb11 | hb11
     ·rw [hb11]; first | replace hR := cond_f hb11 hR | (try simp only [hb11, bb] at hR)
      refine WK.condF rfl ?_
      refine WK.skip ?_
      refine WK.nil ?_
      obtain rfl := Option.some.inj hR
      exact RetQ.ret [0, 1, 2, 3, 4, 5, 6, 7, 8] [] (.inl rfl) rfl rfl rfl rfl rfl .refl rfl
     ·rw [hb11]; first | replace hR := cond_t hb11 hR | (try simp only [hb11, bb] at hR)
      refine WK.condT rfl ?_
      refine WK.sr mixed ?_
      refine GX.q (.fn 45 [] [.ptr 6 0, .ptr 1 0, .ptr 2 0, .ptr 7 0]) ?_
      iterate 2 refine GX.q (.ptr 9 4) ?_
      refine GX.q (.int .i64 x901.kids.e0) ?_
      obtain ⟨c46, hc46, hR⟩ := obind_inv hR; try dsimp only at hR
      try dsimp only at hR
      refine GX.callvx (r' := .tup []) (heap' := [(0, .box [.own 3 6 0 a1.l.length, .own 4 1 0 a1.free.length, .int .i64 a1.root, .int .i64 a1.n]), (1, .box (TPrefix.c a2)), (2, .box [.own 10 3 0 c46.length]), (3, .row 6 96 (a1.l.map TNode.c)), (4, .row 1 3 (a1.free.map c_i64)), (6, .box [.ptr 0 0]), (7, .box [.fn 45 [] [.ptr 6 0, .ptr 1 0, .ptr 2 0, .ptr 7 0]]), (9, .box (TNode.c x901)), (10, .row 3 62 (c46.map TEntry.c))]) (next' := 11) [0, 1, 2, 3, 4, 8, 6, 7] [] rfl rfl rfl rfl rfl rfl (ih x901.kids.e0 a1 a2 a3 _ hc46) (.inl rfl) rfl rfl rfl ?_
      refine GX.done ?_
      refine WK.regx mixed ?_
      refine GX.q (.fn 45 [] [.ptr 6 0, .ptr 1 0, .ptr 2 0, .ptr 7 0]) ?_
      refine GX.q (.ptr 9 4) ?_
      refine GX.q (.ptr 9 5) ?_
      refine GX.q (.int .i64 x901.kids.e1) ?_
      obtain ⟨c51, hc51, hR⟩ := obind_inv hR; try dsimp only at hR
      try dsimp only at hR
      refine GX.callvx (r' := .tup []) (heap' := [(0, .box [.own 3 6 0 a1.l.length, .own 4 1 0 a1.free.length, .int .i64 a1.root, .int .i64 a1.n]), (1, .box (TPrefix.c a2)), (2, .box [.own 11 3 0 c51.length]), (3, .row 6 96 (a1.l.map TNode.c)), (4, .row 1 3 (a1.free.map c_i64)), (6, .box [.ptr 0 0]), (7, .box [.fn 45 [] [.ptr 6 0, .ptr 1 0, .ptr 2 0, .ptr 7 0]]), (9, .box (TNode.c x901)), (11, .row 3 62 (c51.map TEntry.c))]) (next' := 12) [0, 1, 2, 3, 4, 10, 6, 7] [] rfl rfl rfl rfl rfl rfl (ih x901.kids.e1 a1 a2 c46 _ hc51) (.inl rfl) rfl rfl rfl ?_
      refine GX.done ?_
      refine WK.nil ?_
      obtain rfl := Option.some.inj hR
      exact RetQ.ret [0, 1, 2, 3, 4, 5, 6, 7, 11] [] (.inl rfl) rfl rfl rfl rfl rfl .refl rfl
    ·rw [hb10]; first | replace hR := cond_t hb10 hR | (try simp only [hb10, bb] at hR)
     refine WK.condT rfl ?_
     refine WK.regx mixed ?_
     refine GX.q (.own 8 3 0 a3.length) ?_
     refine GX.q (.ptr 9 0) ?_
     refine GX.q (.agg [.int .u32 x901.p.A, .int .i64 x901.p.N]) ?_
     refine GX.q (.ptr 9 2) ?_
     refine GX.q (.int .i64 x901.v) ?_
     refine GX.q (.agg [.int .u32 x901.p.A, .int .i64 x901.p.N, .int .i64 x901.v]) ?_
     refine GX.step (v' := .own 10 3 0 (([(⟨x901.p, x901.v⟩ : TEntry)] : List TEntry)).length) (heap' := [(0, .box [.own 3 6 0 a1.l.length, .own 4 1 0 a1.free.length, .int .i64 a1.root, .int .i64 a1.n]), (1, .box (TPrefix.c a2)), (2, .box [.own 8 3 0 a3.length]), (3, .row 6 96 (a1.l.map TNode.c)), (4, .row 1 3 (a1.free.map c_i64)), (6, .box [.ptr 0 0]), (7, .box [.fn 45 [] [.ptr 6 0, .ptr 1 0, .ptr 2 0, .ptr 7 0]]), (8, .row 3 62 (a3.map TEntry.c)), (9, .box (TNode.c x901)), (10, .row 3 62 (([(⟨x901.p, x901.v⟩ : TEntry)] : List TEntry).map TEntry.c))]) (next' := 11) rfl rfl rfl rfl rfl rfl rfl ?_
     rcases bool_two (decide (a3.length < 1099511627776)) with hg14 | hg14
     ·replace hR := cond_f hg14 hR
      cases hR
     replace hR := cond_t hg14 hR; try dsimp only at hR
     have hg14_ := of_decide_eq_true hg14
     refine GX.appT (c := TEntry.c) (L := a3) (X := ([(⟨x901.p, x901.v⟩ : TEntry)] : List TEntry)) (heap' := [(0, .box [.own 3 6 0 a1.l.length, .own 4 1 0 a1.free.length, .int .i64 a1.root, .int .i64 a1.n]), (1, .box (TPrefix.c a2)), (2, .box [.own 8 3 0 a3.length]), (3, .row 6 96 (a1.l.map TNode.c)), (4, .row 1 3 (a1.free.map c_i64)), (6, .box [.ptr 0 0]), (7, .box [.fn 45 [] [.ptr 6 0, .ptr 1 0, .ptr 2 0, .ptr 7 0]]), (9, .box (TNode.c x901)), (10, .row 3 62 (([(⟨x901.p, x901.v⟩ : TEntry)] : List TEntry).map TEntry.c)), (11, .row 3 62 ((a3 ++ ([(⟨x901.p, x901.v⟩ : TEntry)] : List TEntry)).map TEntry.c))]) (next' := 12) rfl rfl rfl rfl (elems_own rfl) (by ((try simp only [List.length_append, List.length_cons, List.length_nil, List.length_map, decide_eq_true_eq, decide_eq_false_iff_not] at *) <;> omega)) (by ((try simp only [List.length_append, List.length_cons, List.length_nil, List.length_map, decide_eq_true_eq, decide_eq_false_iff_not] at *) <;> omega)) rfl rfl rfl rfl ?_
     refine GX.step0 (heap' := [(0, .box [.own 3 6 0 a1.l.length, .own 4 1 0 a1.free.length, .int .i64 a1.root, .int .i64 a1.n]), (1, .box (TPrefix.c a2)), (2, .box [.own 11 3 0 (a3 ++ ([(⟨x901.p, x901.v⟩ : TEntry)] : List TEntry)).length]), (3, .row 6 96 (a1.l.map TNode.c)), (4, .row 1 3 (a1.free.map c_i64)), (6, .box [.ptr 0 0]), (7, .box [.fn 45 [] [.ptr 6 0, .ptr 1 0, .ptr 2 0, .ptr 7 0]]), (9, .box (TNode.c x901)), (10, .row 3 62 (([(⟨x901.p, x901.v⟩ : TEntry)] : List TEntry).map TEntry.c)), (11, .row 3 62 ((a3 ++ ([(⟨x901.p, x901.v⟩ : TEntry)] : List TEntry)).map TEntry.c))]) (next' := 12) rfl rfl rfl rfl rfl ?_
     refine GX.done ?_
     refine WK.sr mixed ?_
     refine GX.q (.agg (TPrefix.c a2)) ?_
     refine GX.q (.ptr 9 0) ?_
     refine GX.q (.agg [.int .u32 x901.p.A, .int .i64 x901.p.N]) ?_
     refine GX.callp (r := .bool c22) rfl rfl rfl (f46_ok a2 x901.p _ hc22) rfl rfl ?_
     refine GX.pure (v' := .bool true) rfl rfl rfl rfl (congrArg PVal.bool hb10) ?_
     iterate 4 refine GX.skip rfl rfl ?_
     refine GX.q (.bool true) ?_
     refine GX.done ?_
     refine WK.condT rfl ?_
     refine WK.sr mixed ?_
     refine GX.q (.fn 45 [] [.ptr 6 0, .ptr 1 0, .ptr 2 0, .ptr 7 0]) ?_
     iterate 2 refine GX.q (.ptr 9 4) ?_
     refine GX.q (.int .i64 x901.kids.e0) ?_
     obtain ⟨c46, hc46, hR⟩ := obind_inv hR; try dsimp only at hR
     try dsimp only at hR
     refine GX.callvx (r' := .tup []) (heap' := [(0, .box [.own 3 6 0 a1.l.length, .own 4 1 0 a1.free.length, .int .i64 a1.root, .int .i64 a1.n]), (1, .box (TPrefix.c a2)), (2, .box [.own 12 3 0 c46.length]), (3, .row 6 96 (a1.l.map TNode.c)), (4, .row 1 3 (a1.free.map c_i64)), (6, .box [.ptr 0 0]), (7, .box [.fn 45 [] [.ptr 6 0, .ptr 1 0, .ptr 2 0, .ptr 7 0]]), (9, .box (TNode.c x901)), (10, .row 3 62 (([(⟨x901.p, x901.v⟩ : TEntry)] : List TEntry).map TEntry.c)), (12, .row 3 62 (c46.map TEntry.c))]) (next' := 13) [0, 1, 2, 3, 4, 11, 6, 7] [] rfl rfl rfl rfl rfl rfl (ih x901.kids.e0 a1 a2 (a3 ++ ([(⟨x901.p, x901.v⟩ : TEntry)] : List TEntry)) _ hc46) (.inl rfl) rfl rfl rfl ?_
     refine GX.done ?_
     refine WK.regx mixed ?_
     refine GX.q (.fn 45 [] [.ptr 6 0, .ptr 1 0, .ptr 2 0, .ptr 7 0]) ?_
     refine GX.q (.ptr 9 4) ?_
     refine GX.q (.ptr 9 5) ?_
     refine GX.q (.int .i64 x901.kids.e1) ?_
     obtain ⟨c51, hc51, hR⟩ := obind_inv hR; try dsimp only at hR
     try dsimp only at hR
     refine GX.callvx (r' := .tup []) (heap' := [(0, .box [.own 3 6 0 a1.l.length, .own 4 1 0 a1.free.length, .int .i64 a1.root, .int .i64 a1.n]), (1, .box (TPrefix.c a2)), (2, .box [.own 13 3 0 c51.length]), (3, .row 6 96 (a1.l.map TNode.c)), (4, .row 1 3 (a1.free.map c_i64)), (6, .box [.ptr 0 0]), (7, .box [.fn 45 [] [.ptr 6 0, .ptr 1 0, .ptr 2 0, .ptr 7 0]]), (9, .box (TNode.c x901)), (10, .row 3 62 (([(⟨x901.p, x901.v⟩ : TEntry)] : List TEntry).map TEntry.c)), (13, .row 3 62 (c51.map TEntry.c))]) (next' := 14) [0, 1, 2, 3, 4, 12, 6, 7] [] rfl rfl rfl rfl rfl rfl (ih x901.kids.e1 a1 a2 c46 _ hc51) (.inl rfl) rfl rfl rfl ?_
     refine GX.done ?_
     refine WK.nil ?_
     obtain rfl := Option.some.inj hR
     exact RetQ.ret [0, 1, 2, 3, 4, 5, 6, 7, 13] [] (.inl rfl) rfl rfl rfl rfl rfl .refl rfl
  ·rw [hb1]; first | replace hR := cond_t hb1 hR | (try simp only [hb1, bb] at hR)
   refine WK.condT rfl ?_
   refine WK.ret ?_
   obtain rfl := Option.some.inj hR
   exact RetQ.ret [0, 1, 2, 3, 4, 5, 6, 7, 8] [] (.inr rfl) rfl rfl rfl rfl rfl .refl rfl

theorem f29_ok (t0 : TTrie) (p1 : TPrefix) (R : (List TEntry)) (hR : F29_trie_Trie_Below t0 p1 = some R) : FnOk Tryd.prog 29 [.ptr 0 0, .agg (TPrefix.c p1)] [(0, .box [.own 1 6 0 t0.l.length, .own 2 1 0 t0.free.length, .int .i64 t0.root, .int .i64 t0.n]), (1, .row 6 96 (t0.l.map TNode.c)), (2, .row 1 3 (t0.free.map c_i64))] 3 (.ro 3 (R.map TEntry.c)) [(0, .box [.own 1 6 0 t0.l.length, .own 2 1 0 t0.free.length, .int .i64 t0.root, .int .i64 t0.n]), (1, .row 6 96 (t0.l.map TNode.c)), (2, .row 1 3 (t0.free.map c_i64))] 3 := by
 refine FnOk.wk i29 rfl rfl ?_
 unfold F29_trie_Trie_Below at hR
 try dsimp only at hR
 change WK _ _ _ [ac29] _ ⟨[(0, .ptr 0 0), (1, .agg (TPrefix.c p1))], [(0, .box [.own 1 6 0 t0.l.length, .own 2 1 0 t0.free.length, .int .i64 t0.root, .int .i64 t0.n]), (1, .row 6 96 (t0.l.map TNode.c)), (2, .row 1 3 (t0.free.map c_i64))], 3⟩
 unfold ac29
 refine WK.sr mixed ?_
 refine GX.step (v' := .ptr 3 0) (heap' := [(0, .box [.own 1 6 0 t0.l.length, .own 2 1 0 t0.free.length, .int .i64 t0.root, .int .i64 t0.n]), (1, .row 6 96 (t0.l.map TNode.c)), (2, .row 1 3 (t0.free.map c_i64)), (3, .box [.ptr 0 0])]) (next' := 4) rfl rfl rfl rfl rfl rfl rfl ?_
 refine GX.step (v' := .ptr 4 0) (heap' := [(0, .box [.own 1 6 0 t0.l.length, .own 2 1 0 t0.free.length, .int .i64 t0.root, .int .i64 t0.n]), (1, .row 6 96 (t0.l.map TNode.c)), (2, .row 1 3 (t0.free.map c_i64)), (3, .box [.ptr 0 0]), (4, .box (TPrefix.c p1))]) (next' := 5) rfl rfl rfl rfl rfl rfl rfl ?_
 refine GX.m rfl ?_
 refine GX.done ?_
 refine WK.seq ?_
 refine WK.sr mixed ?_
 refine GX.q (.ptr 0 0) ?_
 refine GX.q (.bool false) ?_
 refine GX.m rfl ?_
 refine GX.q (.agg (TPrefix.c p1)) ?_
 generalize hc11 : F23_addr_May p1 = c11 at hR
 try dsimp only at hR
 refine GX.callp (r := .bool c11) rfl rfl rfl (f23_ok p1 _ hc11) rfl rfl ?_
 iterate 2 refine GX.q (.bool (!c11)) ?_
 refine GX.done ?_
 rcases bool_two (c11) with hb1 | hb1
 ·rw [hb1]; first | replace hR := cond_f hb1 hR | (try simp only [hb1, bb] at hR)
  refine WK.condT rfl ?_
  refine WK.sr mixed ?_
  refine GX.m rfl ?_
  refine GX.done ?_
  refine WK.ret ?_
  obtain rfl := Option.some.inj hR
  exact RetQ.ret [0, 1, 2] [] (.inr rfl) rfl rfl rfl rfl rfl .nil rfl
 ·rw [hb1]; first | replace hR := cond_t hb1 hR | (try simp only [hb1, bb] at hR)
  refine WK.condF rfl ?_
  refine WK.skip ?_
  refine WK.sr mixed ?_
  refine GX.step (v' := .ptr 5 0) (heap' := [(0, .box [.own 1 6 0 t0.l.length, .own 2 1 0 t0.free.length, .int .i64 t0.root, .int .i64 t0.n]), (1, .row 6 96 (t0.l.map TNode.c)), (2, .row 1 3 (t0.free.map c_i64)), (3, .box [.ptr 0 0]), (4, .box (TPrefix.c p1)), (5, .box [.nils])]) (next' := 6) rfl rfl rfl rfl rfl rfl rfl ?_
  refine GX.done ?_
  refine WK.sr mixed ?_
  refine GX.step (v' := .ptr 6 0) (heap' := [(0, .box [.own 1 6 0 t0.l.length, .own 2 1 0 t0.free.length, .int .i64 t0.root, .int .i64 t0.n]), (1, .row 6 96 (t0.l.map TNode.c)), (2, .row 1 3 (t0.free.map c_i64)), (3, .box [.ptr 0 0]), (4, .box (TPrefix.c p1)), (5, .box [.nils]), (6, .box [.nilf])]) (next' := 7) rfl rfl rfl rfl rfl rfl rfl ?_
  refine GX.done ?_
  refine WK.sr mixed ?_
  refine GX.q (.fn 45 [] [.ptr 3 0, .ptr 4 0, .ptr 5 0, .ptr 6 0]) ?_
  refine GX.step0 (heap' := [(0, .box [.own 1 6 0 t0.l.length, .own 2 1 0 t0.free.length, .int .i64 t0.root, .int .i64 t0.n]), (1, .row 6 96 (t0.l.map TNode.c)), (2, .row 1 3 (t0.free.map c_i64)), (3, .box [.ptr 0 0]), (4, .box (TPrefix.c p1)), (5, .box [.nils]), (6, .box [.fn 45 [] [.ptr 3 0, .ptr 4 0, .ptr 5 0, .ptr 6 0]])]) (next' := 7) rfl rfl rfl rfl rfl ?_
  refine GX.done ?_
  refine WK.seq ?_
  refine WK.adoptB (id := 5) (j := 0) (sz := 3) (ty := 62) (heap' := [(0, .box [.own 1 6 0 t0.l.length, .own 2 1 0 t0.free.length, .int .i64 t0.root, .int .i64 t0.n]), (1, .row 6 96 (t0.l.map TNode.c)), (2, .row 1 3 (t0.free.map c_i64)), (3, .box [.ptr 0 0]), (4, .box (TPrefix.c p1)), (5, .box [.own 7 3 0 (([] : List TEntry)).length]), (6, .box [.fn 45 [] [.ptr 3 0, .ptr 4 0, .ptr 5 0, .ptr 6 0]]), (7, .row 3 62 (([] : List TEntry).map TEntry.c))]) rfl rfl (by decide) (by simp) rfl ?_
  refine WK.drawn mixed ?_
  refine RD.q (.fn 45 [] [.ptr 3 0, .ptr 4 0, .ptr 5 0, .ptr 6 0]) ?_
  iterate 2 refine RD.q (.ptr 0 0) ?_
  refine RD.q (.ptr 0 2) ?_
  refine RD.q (.int .i64 t0.root) ?_
  obtain ⟨c20, hc20, hR⟩ := obind_inv hR; try dsimp only at hR
  try dsimp only at hR
  refine RD.callvx (r' := .tup []) (heap' := [(0, .box [.own 1 6 0 t0.l.length, .own 2 1 0 t0.free.length, .int .i64 t0.root, .int .i64 t0.n]), (1, .row 6 96 (t0.l.map TNode.c)), (2, .row 1 3 (t0.free.map c_i64)), (3, .box [.ptr 0 0]), (4, .box (TPrefix.c p1)), (5, .box [.own 8 3 0 c20.length]), (6, .box [.fn 45 [] [.ptr 3 0, .ptr 4 0, .ptr 5 0, .ptr 6 0]]), (8, .row 3 62 (c20.map TEntry.c))]) (next' := 9) [0, 4, 5, 1, 2, 7, 3, 6] [] rfl rfl rfl rfl rfl rfl (f45_ok 100 t0.root t0 p1 ([] : List TEntry) _ hc20) (.inl rfl) rfl rfl rfl ?_
  refine RD.done rfl ?_
  refine WK.sr mixed ?_
  refine GX.q (.own 8 3 0 c20.length) ?_
  refine GX.m rfl ?_
  refine GX.done ?_
  refine WK.ret ?_
  obtain rfl := Option.some.inj hR
  exact RetQ.ret [0, 1, 2] [8] (.inr rfl) rfl rfl rfl rfl (viewGo_cons (view_rowT rfl rfl) viewGo_nil) .refl rfl

theorem f18_ok (t0 : TTrie) (R : (List TEntry)) (hR : F18_trie_Trie_Walk t0 = some R) : FnOk Tryd.prog 18 [.ptr 0 0] [(0, .box [.own 1 6 0 t0.l.length, .own 2 1 0 t0.free.length, .int .i64 t0.root, .int .i64 t0.n]), (1, .row 6 96 (t0.l.map TNode.c)), (2, .row 1 3 (t0.free.map c_i64))] 3 (.ro 3 (R.map TEntry.c)) [(0, .box [.own 1 6 0 t0.l.length, .own 2 1 0 t0.free.length, .int .i64 t0.root, .int .i64 t0.n]), (1, .row 6 96 (t0.l.map TNode.c)), (2, .row 1 3 (t0.free.map c_i64))] 3 := by
 refine FnOk.wk i18 rfl rfl ?_
 unfold F18_trie_Trie_Walk at hR
 try dsimp only at hR
 change WK _ _ _ [ac18] _ ⟨[(0, .ptr 0 0)], [(0, .box [.own 1 6 0 t0.l.length, .own 2 1 0 t0.free.length, .int .i64 t0.root, .int .i64 t0.n]), (1, .row 6 96 (t0.l.map TNode.c)), (2, .row 1 3 (t0.free.map c_i64))], 3⟩
 unfold ac18
 refine WK.sr mixed ?_
 refine GX.m rfl ?_
 refine GX.done ?_
 refine WK.sr mixed ?_
 refine GX.m rfl ?_
 refine GX.q (.agg [.int .u32 0, .int .i64 0]) ?_
 obtain ⟨c5, hc5, hR⟩ := obind_inv hR; try dsimp only at hR
 try dsimp only at hR
 refine GX.callx (r' := .ro 3 (c5.map TEntry.c)) (heap' := [(0, .box [.own 1 6 0 t0.l.length, .own 2 1 0 t0.free.length, .int .i64 t0.root, .int .i64 t0.n]), (1, .row 6 96 (t0.l.map TNode.c)), (2, .row 1 3 (t0.free.map c_i64))]) (next' := 3) [0, 1, 2] [] rfl rfl rfl rfl rfl rfl (f29_ok t0 (⟨0, 0⟩ : TPrefix) _ hc5) (.inl rfl) rfl rfl rfl ?_
 refine GX.m rfl ?_
 refine GX.done ?_
 refine WK.ret ?_
 obtain rfl := Option.some.inj hR
 exact RetQ.ret [0, 1, 2] [] (.inr rfl) rfl rfl rfl rfl rfl .refl rfl

theorem f8_ok (f0 : TFib) (l1 : List TCand) (R : Int × Int × TFib) (hR : F8_fib_Fib_Sync f0 l1 = some R) : FnOk Tryd.prog 8 [.ptr 0 0, .ro 10 (l1.map TCand.c)] [(0, .box [.ptr 1 0, .own 4 3 0 f0.sets.length, .mapr 5]), (1, .box [.own 2 6 0 f0.t.l.length, .own 3 1 0 f0.t.free.length, .int .i64 f0.t.root, .int .i64 f0.t.n]), (2, .row 6 96 (f0.t.l.map TNode.c)), (3, .row 1 3 (f0.t.free.map c_i64)), (4, .row 3 68 (f0.sets.map TGroup.c)), (5, .mq f0.atf.1 (f0.atf.2.map (encE (fun y => .int .i64 y))))] 6 (.tup [.int .i64 R.1, .int .i64 R.2.1]) [(0, .box [.ptr 1 0, .own 8 3 0 R.2.2.sets.length, .mapr 5]), (1, .box [.own 6 6 0 R.2.2.t.l.length, .own 7 1 0 R.2.2.t.free.length, .int .i64 R.2.2.t.root, .int .i64 R.2.2.t.n]), (5, .mq R.2.2.atf.1 (R.2.2.atf.2.map (encE (fun y => .int .i64 y)))), (6, .row 6 96 (R.2.2.t.l.map TNode.c)), (7, .row 1 3 (R.2.2.t.free.map c_i64)), (8, .row 3 68 (R.2.2.sets.map TGroup.c))] 9 := by
 refine FnOk.wk i8 rfl rfl ?_
 unfold F8_fib_Fib_Sync at hR
 try dsimp only at hR
 change WK _ _ _ [ac8] _ ⟨[(0, .ptr 0 0), (1, .ro 10 (l1.map TCand.c))], [(0, .box [.ptr 1 0, .own 4 3 0 f0.sets.length, .mapr 5]), (1, .box [.own 2 6 0 f0.t.l.length, .own 3 1 0 f0.t.free.length, .int .i64 f0.t.root, .int .i64 f0.t.n]), (2, .row 6 96 (f0.t.l.map TNode.c)), (3, .row 1 3 (f0.t.free.map c_i64)), (4, .row 3 68 (f0.sets.map TGroup.c)), (5, .mq f0.atf.1 (f0.atf.2.map (encE (fun y => .int .i64 y))))], 6⟩
 unfold ac8
 refine WK.mvB (id := 1) (j := 0) (heap' := [(0, .box [.ptr 1 0, .own 4 3 0 f0.sets.length, .mapr 5]), (1, .box [.own 6 6 0 f0.t.l.length, .own 3 1 0 f0.t.free.length, .int .i64 f0.t.root, .int .i64 f0.t.n]), (3, .row 1 3 (f0.t.free.map c_i64)), (4, .row 3 68 (f0.sets.map TGroup.c)), (5, .mq f0.atf.1 (f0.atf.2.map (encE (fun y => .int .i64 y)))), (6, .row 6 96 (f0.t.l.map TNode.c))]) rfl rfl rfl (by simp) rfl ?_
 refine WK.mvB (id := 1) (j := 1) (heap' := [(0, .box [.ptr 1 0, .own 4 3 0 f0.sets.length, .mapr 5]), (1, .box [.own 6 6 0 f0.t.l.length, .own 7 1 0 f0.t.free.length, .int .i64 f0.t.root, .int .i64 f0.t.n]), (4, .row 3 68 (f0.sets.map TGroup.c)), (5, .mq f0.atf.1 (f0.atf.2.map (encE (fun y => .int .i64 y)))), (6, .row 6 96 (f0.t.l.map TNode.c)), (7, .row 1 3 (f0.t.free.map c_i64))]) rfl rfl rfl (by simp) rfl ?_
 refine WK.mvB (id := 0) (j := 1) (heap' := [(0, .box [.ptr 1 0, .own 8 3 0 f0.sets.length, .mapr 5]), (1, .box [.own 6 6 0 f0.t.l.length, .own 7 1 0 f0.t.free.length, .int .i64 f0.t.root, .int .i64 f0.t.n]), (5, .mq f0.atf.1 (f0.atf.2.map (encE (fun y => .int .i64 y)))), (6, .row 6 96 (f0.t.l.map TNode.c)), (7, .row 1 3 (f0.t.free.map c_i64)), (8, .row 3 68 (f0.sets.map TGroup.c))]) rfl rfl rfl (by simp) rfl ?_
 refine WK.sr mixed ?_
 iterate 2 refine GX.m rfl ?_
 refine GX.done ?_
 refine WK.seq ?_
 refine WK.sr mixed ?_
 refine GX.m rfl ?_
 refine GX.q (.bool false) ?_
 refine GX.done ?_
 refine WK.condF rfl ?_
 refine WK.skip ?_
 refine WK.sr mixed ?_
 refine GX.step (v' := .mapr 9) (heap' := [(0, .box [.ptr 1 0, .own 8 3 0 f0.sets.length, .mapr 5]), (1, .box [.own 6 6 0 f0.t.l.length, .own 7 1 0 f0.t.free.length, .int .i64 f0.t.root, .int .i64 f0.t.n]), (5, .mq f0.atf.1 (f0.atf.2.map (encE (fun y => .int .i64 y)))), (6, .row 6 96 (f0.t.l.map TNode.c)), (7, .row 1 3 (f0.t.free.map c_i64)), (8, .row 3 68 (f0.sets.map TGroup.c)), (9, .mp (([] : List (TPrefix × Bool)).map (encQ (fun k => .agg (TPrefix.c k)) (fun y => .bool y))))]) (next' := 10) rfl rfl rfl rfl rfl rfl rfl ?_
 refine GX.m rfl ?_
 refine GX.done ?_
 refine WK.seq ?_
 refine WK.sr mixed ?_
 refine GX.m rfl ?_
 refine GX.pure (v' := .int .i64 (l1.length : Int)) rfl rfl rfl rfl (len_map _ _) ?_
 refine GX.m rfl ?_
 refine GX.done ?_
 refine WK.len (t := 1) rfl (by simp) (fun hlen_57 => ?_)
 rw [List.length_map] at hlen_57
 generalize hZ_57 : F8_fib_Fib_Sync_l5 ([] : List (TPrefix × Bool)) l1 = Z_57 at hR
 refine WK.forK (fun k s => ∃ (i20 : Nat) (stays6 : List (TPrefix × Bool)), i20 ≤ l1.length ∧ k = l1.length - i20 ∧ F8_fib_Fib_Sync_l5 stays6 (l1.drop i20) = Z_57 ∧ s = ⟨[(0, .ptr 0 0), (1, .ro 10 (l1.map TCand.c)), (6, .mapr 9), (18, .ro 10 (l1.map TCand.c)), (19, .int .i64 (l1.length : Int)), (20, .int .i64 (i20 : Int))], [(0, .box [.ptr 1 0, .own 6 3 0 f0.sets.length, .mapr 5]), (1, .box [.own 7 6 0 f0.t.l.length, .own 8 1 0 f0.t.free.length, .int .i64 f0.t.root, .int .i64 f0.t.n]), (5, .mq f0.atf.1 (f0.atf.2.map (encE (fun y => .int .i64 y)))), (6, .row 3 68 (f0.sets.map TGroup.c)), (7, .row 6 96 (f0.t.l.map TNode.c)), (8, .row 1 3 (f0.t.free.map c_i64)), (9, .mp (stays6.map (encQ (fun k => .agg (TPrefix.c k)) (fun y => .bool y))))], 10⟩) l1.length (by refine ⟨_, ?_, 0, ([] : List (TPrefix × Bool)), (by omega), rfl, hZ_57, rfl⟩; exact Conv.keepR [0, 1, 2, 3, 4, 5, 8, 6, 7, 9] [] [0, 1, 6, 18, 19, 20] rfl rfl (viewE_cons rfl rfl (viewE_cons rfl rfl (viewE_cons rfl rfl (viewE_cons rfl rfl (viewE_cons rfl rfl (viewE_cons rfl rfl viewE_nil)))))) rfl rfl) ?_
 rintro _ _ ⟨i20, stays6, hi_57, rfl, hL_57, rfl⟩ again_57 out_57 Q_57 hagain_57 hout_57 hQ_57
 refine WK.sr mixed ?_
 refine GX.q (.bool (decide ((i20 : Int) < (l1.length : Int)))) ?_
 refine GX.done ?_
 refine WK.seq ?_
 rcases bool_two (decide ((i20 : Int) < (l1.length : Int))) with hb58 | hb58
 ·rw [hb58]
  rw [drop_end hb58, F8_fib_Fib_Sync_l5] at hL_57
  refine WK.condF rfl ?_
  refine WK.exit ?_
  refine QF.exit (hout_57 _ ?_)
  subst hL_57
  replace hR := obind_s hR; try dsimp only at hR
  refine WK.sr mixed ?_
  iterate 2 refine GX.m rfl ?_
  refine GX.done ?_
  refine WK.seq ?_
  refine WK.sr mixed ?_
  refine GX.m rfl ?_
  iterate 2 refine GX.q (.ptr 0 0) ?_
  refine GX.q (.ptr 1 0) ?_
  obtain ⟨c32, hc32, hR⟩ := obind_inv hR; try dsimp only at hR
  try dsimp only at hR
  refine GX.callx (r' := .ro 3 (c32.map TEntry.c)) (heap' := [(0, .box [.ptr 1 0, .own 6 3 0 f0.sets.length, .mapr 5]), (1, .box [.own 7 6 0 f0.t.l.length, .own 8 1 0 f0.t.free.length, .int .i64 f0.t.root, .int .i64 f0.t.n]), (5, .mq f0.atf.1 (f0.atf.2.map (encE (fun y => .int .i64 y)))), (6, .row 3 68 (f0.sets.map TGroup.c)), (7, .row 6 96 (f0.t.l.map TNode.c)), (8, .row 1 3 (f0.t.free.map c_i64)), (9, .mp (stays6.map (encQ (fun k => .agg (TPrefix.c k)) (fun y => .bool y))))]) (next' := 10) [1, 7, 8] [] rfl rfl rfl rfl rfl rfl (f18_ok f0.t _ hc32) (.inl rfl) rfl rfl rfl ?_
  refine GX.pure (v' := .int .i64 (c32.length : Int)) rfl rfl rfl rfl (len_map _ _) ?_
  refine GX.m rfl ?_
  refine GX.done ?_
  refine WK.len (t := 32) rfl (by simp) (fun hlen_86 => ?_)
  rw [List.length_map] at hlen_86
  generalize hZ_86 : F8_fib_Fib_Sync_l4 stays6 0 f0.t.root f0.t.n f0.atf f0.sets f0.t.l f0.t.free c32 = Z_86 at hR
  refine WK.forK (fun k s => ∃ (i34 : Nat) (out9 : Int) (box_2_1 : Int) (box_3_1 : Int) (map5 : QMap Int) (row6 : List TGroup) (row7 : List TNode) (row8 : List Int), i34 ≤ c32.length ∧ k = c32.length - i34 ∧ F8_fib_Fib_Sync_l4 stays6 out9 box_2_1 box_3_1 map5 row6 row7 row8 (c32.drop i34) = Z_86 ∧ s = ⟨[(0, .ptr 0 0), (1, .ro 10 (l1.map TCand.c)), (6, .mapr 9), (9, .int .i64 out9), (10, .int .i64 0), (32, .ro 3 (c32.map TEntry.c)), (33, .int .i64 (c32.length : Int)), (34, .int .i64 (i34 : Int))], [(0, .box [.ptr 1 0, .own 6 3 0 row6.length, .mapr 5]), (1, .box [.own 7 6 0 row7.length, .own 8 1 0 row8.length, .int .i64 box_2_1, .int .i64 box_3_1]), (5, .mq map5.1 (map5.2.map (encE (fun y => .int .i64 y)))), (6, .row 3 68 (row6.map TGroup.c)), (7, .row 6 96 (row7.map TNode.c)), (8, .row 1 3 (row8.map c_i64)), (9, .mp (stays6.map (encQ (fun k => .agg (TPrefix.c k)) (fun y => .bool y))))], 10⟩) c32.length (by refine ⟨_, ?_, 0, 0, f0.t.root, f0.t.n, f0.atf, f0.sets, f0.t.l, f0.t.free, (by omega), rfl, hZ_86, rfl⟩; exact Conv.keepR [0, 1, 2, 3, 4, 5, 6, 7, 8, 9] [] [0, 1, 6, 9, 10, 32, 33, 34] rfl rfl (viewE_cons rfl rfl (viewE_cons rfl rfl (viewE_cons rfl rfl (viewE_cons rfl rfl (viewE_cons rfl rfl (viewE_cons rfl rfl (viewE_cons rfl rfl (viewE_cons rfl rfl viewE_nil)))))))) rfl rfl) ?_
  rintro _ _ ⟨i34, out9, box_2_1, box_3_1, map5, row6, row7, row8, hi_86, rfl, hL_86, rfl⟩ again_86 out_86 Q_86 hagain_86 hout_86 hQ_86
  refine WK.sr mixed ?_
  refine GX.q (.bool (decide ((i34 : Int) < (c32.length : Int)))) ?_
  refine GX.done ?_
  refine WK.seq ?_
  rcases bool_two (decide ((i34 : Int) < (c32.length : Int))) with hb87 | hb87
  ·rw [hb87]
   rw [drop_end hb87, F8_fib_Fib_Sync_l4] at hL_86
   refine WK.condF rfl ?_
   refine WK.exit ?_
   refine QF.exit (hout_86 _ ?_)
   subst hL_86
   replace hR := obind_s hR; try dsimp only at hR
   refine WK.seq ?_
   refine WK.sr mixed ?_
   refine GX.m rfl ?_
   refine GX.pure (v' := .int .i64 (l1.length : Int)) rfl rfl rfl rfl (len_map _ _) ?_
   refine GX.m rfl ?_
   refine GX.done ?_
   refine WK.len (t := 1) rfl (by simp) (fun hlen_102 => ?_)
   rw [List.length_map] at hlen_102
   generalize hZ_102 : F8_fib_Fib_Sync_l2 0 box_2_1 box_3_1 map5 row6 row7 row8 l1 = Z_102 at hR
   refine WK.forK (fun k s => ∃ (i52 : Nat) (set10 : Int) (box_2_1x : Int) (box_3_1x : Int) (map5x : QMap Int) (row6x : List TGroup) (row7x : List TNode) (row8x : List Int), i52 ≤ l1.length ∧ k = l1.length - i52 ∧ F8_fib_Fib_Sync_l2 set10 box_2_1x box_3_1x map5x row6x row7x row8x (l1.drop i52) = Z_102 ∧ s = ⟨[(0, .ptr 0 0), (9, .int .i64 out9), (10, .int .i64 set10), (50, .ro 10 (l1.map TCand.c)), (51, .int .i64 (l1.length : Int)), (52, .int .i64 (i52 : Int))], [(0, .box [.ptr 1 0, .own 6 3 0 row6x.length, .mapr 5]), (1, .box [.own 7 6 0 row7x.length, .own 8 1 0 row8x.length, .int .i64 box_2_1x, .int .i64 box_3_1x]), (5, .mq map5x.1 (map5x.2.map (encE (fun y => .int .i64 y)))), (6, .row 3 68 (row6x.map TGroup.c)), (7, .row 6 96 (row7x.map TNode.c)), (8, .row 1 3 (row8x.map c_i64))], 9⟩) l1.length (by refine ⟨_, ?_, 0, 0, box_2_1, box_3_1, map5, row6, row7, row8, (by omega), rfl, hZ_102, rfl⟩; exact Conv.keepR [0, 1, 2, 3, 4, 5, 6, 7, 8] [] [0, 9, 10, 50, 51, 52] rfl rfl (viewE_cons rfl rfl (viewE_cons rfl rfl (viewE_cons rfl rfl (viewE_cons rfl rfl (viewE_cons rfl rfl (viewE_cons rfl rfl viewE_nil)))))) rfl rfl) ?_
   rintro _ _ ⟨i52, set10, box_2_1x, box_3_1x, map5x, row6x, row7x, row8x, hi_102, rfl, hL_102, rfl⟩ again_102 out_102 Q_102 hagain_102 hout_102 hQ_102
   refine WK.sr mixed ?_
   refine GX.q (.bool (decide ((i52 : Int) < (l1.length : Int)))) ?_
   refine GX.done ?_
   refine WK.seq ?_
   rcases bool_two (decide ((i52 : Int) < (l1.length : Int))) with hb103 | hb103
   ·rw [hb103]
    rw [drop_end hb103, F8_fib_Fib_Sync_l2] at hL_102
    refine WK.condF rfl ?_
    refine WK.exit ?_
    refine QF.exit (hout_102 _ ?_)
    subst hL_102
    replace hR := obind_s hR; try dsimp only at hR
    refine WK.sr mixed ?_
    iterate 4 refine GX.m rfl ?_
    refine GX.done ?_
    refine WK.ret ?_
    obtain rfl := Option.some.inj hR
    exact RetQ.ret [0, 1, 2, 3, 4, 5, 7, 8, 6] [] (.inr rfl) rfl rfl rfl rfl rfl .refl rfl
   ·rw [hb103]
    obtain ⟨x52, hx102, hd102, hlt102⟩ := drop_more hb103
    rw [hd102, F8_fib_Fib_Sync_l2] at hL_102
    refine WK.condT rfl ?_
    refine WK.skip ?_
    refine WK.seq ?_
    refine WK.blockK (fun _ hK104 => ?_)
    refine WK.sr mixed ?_
    refine GX.idxT (c := TCand.c) (x := x52) rfl rfl rfl (Int.natCast_nonneg _) hx102 ?_
    refine GX.q (.agg (TCand.c x52)) ?_
    refine GX.step (v' := .ptr 9 0) (heap' := [(0, .box [.ptr 1 0, .own 6 3 0 row6x.length, .mapr 5]), (1, .box [.own 7 6 0 row7x.length, .own 8 1 0 row8x.length, .int .i64 box_2_1x, .int .i64 box_3_1x]), (5, .mq map5x.1 (map5x.2.map (encE (fun y => .int .i64 y)))), (6, .row 3 68 (row6x.map TGroup.c)), (7, .row 6 96 (row7x.map TNode.c)), (8, .row 1 3 (row8x.map c_i64)), (9, .box [.int .u32 0, .int .i64 0, .int .i64 0, .int .i64 0, .int .i64 0, .int .i64 0, .int .u32 0, .bool false, .int .i64 0, .nils])]) (next' := 10) rfl rfl rfl rfl rfl rfl rfl ?_
    refine GX.step0 (heap' := [(0, .box [.ptr 1 0, .own 6 3 0 row6x.length, .mapr 5]), (1, .box [.own 7 6 0 row7x.length, .own 8 1 0 row8x.length, .int .i64 box_2_1x, .int .i64 box_3_1x]), (5, .mq map5x.1 (map5x.2.map (encE (fun y => .int .i64 y)))), (6, .row 3 68 (row6x.map TGroup.c)), (7, .row 6 96 (row7x.map TNode.c)), (8, .row 1 3 (row8x.map c_i64)), (9, .box (TCand.c x52))]) (next' := 10) rfl rfl rfl rfl rfl ?_
    refine GX.done ?_
    refine WK.seq ?_
    refine WK.drawn mixed ?_
    refine RD.m rfl ?_
    refine RD.q (.ptr 9 0) ?_
    refine RD.q (.agg [.int .u32 x52.P.A, .int .i64 x52.P.N]) ?_
    refine RD.q (.ptr 9 9) ?_
    refine RD.q (.ro 2 (x52.Hops.map THop.c)) ?_
    rcases obind_cases hL_102 with ⟨_, hL_102⟩ | ⟨c61, hc61, hL_102⟩
    ·subst hL_102
     first | replace hR := obind_n hR | replace hR := oexc_n hR
     cases hR
    try dsimp only at hL_102
    try dsimp only at hL_102
    refine RD.callp (r := .ro 2 (c61.map THop.c)) rfl rfl rfl (f20_ok x52.Hops _ hc61) rfl rfl ?_
    rcases obind_cases hL_102 with ⟨_, hL_102⟩ | ⟨c62, hc62, hL_102⟩
    ·subst hL_102
     first | replace hR := obind_n hR | replace hR := oexc_n hR
     cases hR
    try dsimp only at hL_102
    try dsimp only at hL_102
    refine RD.callx (r' := .bool c62) (heap' := [(0, .box [.ptr 1 0, .own 6 3 0 row6x.length, .mapr 5]), (1, .box [.own 7 6 0 row7x.length, .own 8 1 0 row8x.length, .int .i64 box_2_1x, .int .i64 box_3_1x]), (5, .mq map5x.1 (map5x.2.map (encE (fun y => .int .i64 y)))), (6, .row 3 68 (row6x.map TGroup.c)), (7, .row 6 96 (row7x.map TNode.c)), (8, .row 1 3 (row8x.map c_i64)), (9, .box (TCand.c x52))]) (next' := 10) [0, 1, 7, 8, 6, 5] [] rfl rfl rfl rfl rfl rfl (f19_ok (⟨(⟨row7x, row8x, box_2_1x, box_3_1x⟩ : TTrie), row6x, map5x⟩ : TFib) x52.P c61 _ hc62) (.inl rfl) rfl rfl rfl ?_
    refine RD.q (.bool (!c62)) ?_
    refine RD.m rfl ?_
    rcases bool_two (c62) with hb106 | hb106
    ·rw [hb106]; try simp only [hb106, bb] at hL_102
     refine RD.m rfl ?_
     refine RD.q (.ptr 9 0) ?_
     refine RD.q (.agg [.int .u32 x52.P.A, .int .i64 x52.P.N]) ?_
     refine RD.q (.ptr 9 9) ?_
     refine RD.q (.ro 2 (x52.Hops.map THop.c)) ?_
     rcases obind_cases hL_102 with ⟨_, hL_102⟩ | ⟨c70, hc70, hL_102⟩
     ·subst hL_102
      first | replace hR := obind_n hR | replace hR := oexc_n hR
      cases hR
     try dsimp only at hL_102
     refine RD.callx (r' := .int .i64 c70.1) (heap' := [(0, .box [.ptr 1 0, .own 12 3 0 c70.2.sets.length, .mapr 5]), (1, .box [.own 10 6 0 c70.2.t.l.length, .own 11 1 0 c70.2.t.free.length, .int .i64 c70.2.t.root, .int .i64 c70.2.t.n]), (5, .mq c70.2.atf.1 (c70.2.atf.2.map (encE (fun y => .int .i64 y)))), (9, .box (TCand.c x52)), (12, .row 3 68 (c70.2.sets.map TGroup.c)), (11, .row 1 3 (c70.2.t.free.map c_i64)), (10, .row 6 96 (c70.2.t.l.map TNode.c))]) (next' := 13) [0, 1, 7, 8, 6, 5] [] rfl rfl rfl rfl rfl rfl (f14_ok (⟨(⟨row7x, row8x, box_2_1x, box_3_1x⟩ : TTrie), row6x, map5x⟩ : TFib) x52.P x52.Hops _ hc70) (.inl rfl) rfl rfl rfl ?_
     iterate 2 refine RD.q (.bool (decide (c70.1 = 0))) ?_
     refine RD.done rfl ?_
     rcases bool_two (decide (c70.1 = 0)) with hb108 | hb108
     ·rw [hb108]; try simp only [hb108, bb] at hL_102
      refine WK.condF rfl ?_
      refine WK.skip ?_
      refine WK.nil (QF.normal (hK104 _ ?_))
      refine WK.regx mixed ?_
      refine GX.pure (v' := .int .i64 ((i52 + 1 : Nat) : Int)) rfl rfl rfl rfl (congrArg (PVal.int .i64) (wrap_up hlt102 hlen_102)) ?_
      refine GX.m rfl ?_
      refine GX.done ?_
      refine WK.nil (QF.normal ?_)
      refine hagain_102 _ (l1.length - (i52 + 1)) _ (by omega) ?_ ⟨i52 + 1, set10, c70.2.t.root, c70.2.t.n, c70.2.atf, c70.2.sets, c70.2.t.l, c70.2.t.free, (by omega), rfl, hL_102, rfl⟩
      exact Conv.keepR [0, 1, 2, 3, 4, 5, 12, 10, 11] [] [0, 9, 10, 50, 51, 52] rfl rfl (viewE_cons rfl rfl (viewE_cons rfl rfl (viewE_cons rfl rfl (viewE_cons rfl rfl (viewE_cons rfl rfl (viewE_cons rfl rfl viewE_nil)))))) rfl rfl
     ·rw [hb108]; try simp only [hb108, bb] at hL_102
      refine WK.condT rfl ?_
      refine WK.regx mixed ?_
      refine GX.m rfl ?_
      refine GX.q (.int .i64 (IntKind.i64.wrap (set10 + 1))) ?_
      refine GX.m rfl ?_
      refine GX.done ?_
      refine WK.nil (QF.normal (hK104 _ ?_))
      refine WK.regx mixed ?_
      refine GX.pure (v' := .int .i64 ((i52 + 1 : Nat) : Int)) rfl rfl rfl rfl (congrArg (PVal.int .i64) (wrap_up hlt102 hlen_102)) ?_
      refine GX.m rfl ?_
      refine GX.done ?_
      refine WK.nil (QF.normal ?_)
      refine hagain_102 _ (l1.length - (i52 + 1)) _ (by omega) ?_ ⟨i52 + 1, (IntKind.i64.wrap (set10 + 1)), c70.2.t.root, c70.2.t.n, c70.2.atf, c70.2.sets, c70.2.t.l, c70.2.t.free, (by omega), rfl, hL_102, rfl⟩
      exact Conv.keepR [0, 1, 2, 3, 4, 5, 12, 10, 11] [] [0, 9, 10, 50, 51, 52] rfl rfl (viewE_cons rfl rfl (viewE_cons rfl rfl (viewE_cons rfl rfl (viewE_cons rfl rfl (viewE_cons rfl rfl (viewE_cons rfl rfl viewE_nil)))))) rfl rfl
    ·rw [hb106]; try simp only [hb106, bb] at hL_102
     iterate 7 refine RD.skip rfl rfl ?_
     refine RD.q (.bool false) ?_
     refine RD.done rfl ?_
     refine WK.condF rfl ?_
     refine WK.skip ?_
     refine WK.nil (QF.normal (hK104 _ ?_))
     refine WK.regx mixed ?_
     refine GX.pure (v' := .int .i64 ((i52 + 1 : Nat) : Int)) rfl rfl rfl rfl (congrArg (PVal.int .i64) (wrap_up hlt102 hlen_102)) ?_
     refine GX.m rfl ?_
     refine GX.done ?_
     refine WK.nil (QF.normal ?_)
     refine hagain_102 _ (l1.length - (i52 + 1)) _ (by omega) ?_ ⟨i52 + 1, set10, box_2_1x, box_3_1x, map5x, row6x, row7x, row8x, (by omega), rfl, hL_102, rfl⟩
     exact Conv.keepR [0, 1, 2, 3, 4, 5, 6, 7, 8] [] [0, 9, 10, 50, 51, 52] rfl rfl (viewE_cons rfl rfl (viewE_cons rfl rfl (viewE_cons rfl rfl (viewE_cons rfl rfl (viewE_cons rfl rfl (viewE_cons rfl rfl viewE_nil)))))) rfl rfl
  ·rw [hb87]
   obtain ⟨x34, hx86, hd86, hlt86⟩ := drop_more hb87
   rw [hd86, F8_fib_Fib_Sync_l4] at hL_86
   refine WK.condT rfl ?_
   refine WK.skip ?_
   refine WK.seq ?_
   refine WK.blockK (fun _ hK109 => ?_)
   refine WK.sr mixed ?_
   refine GX.idxT (c := TEntry.c) (x := x34) rfl rfl rfl (Int.natCast_nonneg _) hx86 ?_
   refine GX.q (.agg (TEntry.c x34)) ?_
   refine GX.step (v' := .ptr 10 0) (heap' := [(0, .box [.ptr 1 0, .own 6 3 0 row6.length, .mapr 5]), (1, .box [.own 7 6 0 row7.length, .own 8 1 0 row8.length, .int .i64 box_2_1, .int .i64 box_3_1]), (5, .mq map5.1 (map5.2.map (encE (fun y => .int .i64 y)))), (6, .row 3 68 (row6.map TGroup.c)), (7, .row 6 96 (row7.map TNode.c)), (8, .row 1 3 (row8.map c_i64)), (9, .mp (stays6.map (encQ (fun k => .agg (TPrefix.c k)) (fun y => .bool y)))), (10, .box [.int .u32 0, .int .i64 0, .int .i64 0])]) (next' := 11) rfl rfl rfl rfl rfl rfl rfl ?_
   refine GX.step0 (heap' := [(0, .box [.ptr 1 0, .own 6 3 0 row6.length, .mapr 5]), (1, .box [.own 7 6 0 row7.length, .own 8 1 0 row8.length, .int .i64 box_2_1, .int .i64 box_3_1]), (5, .mq map5.1 (map5.2.map (encE (fun y => .int .i64 y)))), (6, .row 3 68 (row6.map TGroup.c)), (7, .row 6 96 (row7.map TNode.c)), (8, .row 1 3 (row8.map c_i64)), (9, .mp (stays6.map (encQ (fun k => .agg (TPrefix.c k)) (fun y => .bool y)))), (10, .box (TEntry.c x34))]) (next' := 11) rfl rfl rfl rfl rfl ?_
   refine GX.done ?_
   refine WK.sr mixed ?_
   refine GX.m rfl ?_
   refine GX.q (.ptr 10 0) ?_
   refine GX.q (.agg [.int .u32 x34.P.A, .int .i64 x34.P.N]) ?_
   refine GX.pure (v' := .bool ((findQ (fun (a b : TPrefix) => (decide (a.A = b.A) && (decide (a.N = b.N) && true))) stays6 x34.P).getD false)) rfl rfl rfl (core_lookF (kc := TPrefix.c) (eq := (fun (a b : TPrefix) => (decide (a.A = b.A) && (decide (a.N = b.N) && true)))) (e := (fun y => .bool y)) (q := x34.P) (z0 := false) (fun _ _ => rfl) rfl rfl) rfl ?_
   refine GX.q (.bool (!((findQ (fun (a b : TPrefix) => (decide (a.A = b.A) && (decide (a.N = b.N) && true))) stays6 x34.P).getD false))) ?_
   refine GX.done ?_
   rcases bool_two ((findQ (fun (a b : TPrefix) => (decide (a.A = b.A) && (decide (a.N = b.N) && true))) stays6 x34.P).getD false) with hb110 | hb110
   ·rw [hb110]; try simp only [hb110, bb] at hL_86
    refine WK.condT rfl ?_
    refine WK.sr mixed ?_
    refine GX.m rfl ?_
    refine GX.q (.ptr 10 0) ?_
    refine GX.q (.agg [.int .u32 x34.P.A, .int .i64 x34.P.N]) ?_
    rcases obind_cases hL_86 with ⟨_, hL_86⟩ | ⟨c46, hc46, hL_86⟩
    ·subst hL_86
     first | replace hR := obind_n hR | replace hR := oexc_n hR
     cases hR
    try dsimp only at hL_86
    refine GX.callx (r' := .bool c46.1) (heap' := [(0, .box [.ptr 1 0, .own 13 3 0 c46.2.sets.length, .mapr 5]), (1, .box [.own 11 6 0 c46.2.t.l.length, .own 12 1 0 c46.2.t.free.length, .int .i64 c46.2.t.root, .int .i64 c46.2.t.n]), (5, .mq c46.2.atf.1 (c46.2.atf.2.map (encE (fun y => .int .i64 y)))), (9, .mp (stays6.map (encQ (fun k => .agg (TPrefix.c k)) (fun y => .bool y)))), (10, .box (TEntry.c x34)), (13, .row 3 68 (c46.2.sets.map TGroup.c)), (12, .row 1 3 (c46.2.t.free.map c_i64)), (11, .row 6 96 (c46.2.t.l.map TNode.c))]) (next' := 14) [0, 1, 7, 8, 6, 5] [] rfl rfl rfl rfl rfl rfl (f15_ok (⟨(⟨row7, row8, box_2_1, box_3_1⟩ : TTrie), row6, map5⟩ : TFib) x34.P _ hc46) (.inl rfl) rfl rfl rfl ?_
    refine GX.done ?_
    refine WK.regx mixed ?_
    refine GX.m rfl ?_
    refine GX.q (.int .i64 (IntKind.i64.wrap (out9 + 1))) ?_
    refine GX.m rfl ?_
    refine GX.done ?_
    refine WK.nil (QF.normal (hK109 _ ?_))
    refine WK.regx mixed ?_
    refine GX.pure (v' := .int .i64 ((i34 + 1 : Nat) : Int)) rfl rfl rfl rfl (congrArg (PVal.int .i64) (wrap_up hlt86 hlen_86)) ?_
    refine GX.m rfl ?_
    refine GX.done ?_
    refine WK.nil (QF.normal ?_)
    refine hagain_86 _ (c32.length - (i34 + 1)) _ (by omega) ?_ ⟨i34 + 1, (IntKind.i64.wrap (out9 + 1)), c46.2.t.root, c46.2.t.n, c46.2.atf, c46.2.sets, c46.2.t.l, c46.2.t.free, (by omega), rfl, hL_86, rfl⟩
    exact Conv.keepR [0, 1, 2, 3, 4, 5, 13, 11, 12, 9] [] [0, 1, 6, 9, 10, 32, 33, 34] rfl rfl (viewE_cons rfl rfl (viewE_cons rfl rfl (viewE_cons rfl rfl (viewE_cons rfl rfl (viewE_cons rfl rfl (viewE_cons rfl rfl (viewE_cons rfl rfl (viewE_cons rfl rfl viewE_nil)))))))) rfl rfl
   ·rw [hb110]; try simp only [hb110, bb] at hL_86
    refine WK.condF rfl ?_
    refine WK.skip ?_
    refine WK.nil (QF.normal (hK109 _ ?_))
    refine WK.regx mixed ?_
    refine GX.pure (v' := .int .i64 ((i34 + 1 : Nat) : Int)) rfl rfl rfl rfl (congrArg (PVal.int .i64) (wrap_up hlt86 hlen_86)) ?_
    refine GX.m rfl ?_
    refine GX.done ?_
    refine WK.nil (QF.normal ?_)
    refine hagain_86 _ (c32.length - (i34 + 1)) _ (by omega) ?_ ⟨i34 + 1, out9, box_2_1, box_3_1, map5, row6, row7, row8, (by omega), rfl, hL_86, rfl⟩
    exact Conv.keepR [0, 1, 2, 3, 4, 5, 6, 7, 8, 9] [] [0, 1, 6, 9, 10, 32, 33, 34] rfl rfl (viewE_cons rfl rfl (viewE_cons rfl rfl (viewE_cons rfl rfl (viewE_cons rfl rfl (viewE_cons rfl rfl (viewE_cons rfl rfl (viewE_cons rfl rfl (viewE_cons rfl rfl viewE_nil)))))))) rfl rfl
 ·rw [hb58]
  obtain ⟨x20, hx57, hd57, hlt57⟩ := drop_more hb58
  rw [hd57, F8_fib_Fib_Sync_l5] at hL_57
  refine WK.condT rfl ?_
  refine WK.skip ?_
  refine WK.seq ?_
  refine WK.blockK (fun _ hK112 => ?_)
  refine WK.sr mixed ?_
  refine GX.idxT (c := TCand.c) (x := x20) rfl rfl rfl (Int.natCast_nonneg _) hx57 ?_
  refine GX.q (.agg (TCand.c x20)) ?_
  refine GX.step (v' := .ptr 10 0) (heap' := [(0, .box [.ptr 1 0, .own 6 3 0 f0.sets.length, .mapr 5]), (1, .box [.own 7 6 0 f0.t.l.length, .own 8 1 0 f0.t.free.length, .int .i64 f0.t.root, .int .i64 f0.t.n]), (5, .mq f0.atf.1 (f0.atf.2.map (encE (fun y => .int .i64 y)))), (6, .row 3 68 (f0.sets.map TGroup.c)), (7, .row 6 96 (f0.t.l.map TNode.c)), (8, .row 1 3 (f0.t.free.map c_i64)), (9, .mp (stays6.map (encQ (fun k => .agg (TPrefix.c k)) (fun y => .bool y)))), (10, .box [.int .u32 0, .int .i64 0, .int .i64 0, .int .i64 0, .int .i64 0, .int .i64 0, .int .u32 0, .bool false, .int .i64 0, .nils])]) (next' := 11) rfl rfl rfl rfl rfl rfl rfl ?_
  refine GX.step0 (heap' := [(0, .box [.ptr 1 0, .own 6 3 0 f0.sets.length, .mapr 5]), (1, .box [.own 7 6 0 f0.t.l.length, .own 8 1 0 f0.t.free.length, .int .i64 f0.t.root, .int .i64 f0.t.n]), (5, .mq f0.atf.1 (f0.atf.2.map (encE (fun y => .int .i64 y)))), (6, .row 3 68 (f0.sets.map TGroup.c)), (7, .row 6 96 (f0.t.l.map TNode.c)), (8, .row 1 3 (f0.t.free.map c_i64)), (9, .mp (stays6.map (encQ (fun k => .agg (TPrefix.c k)) (fun y => .bool y)))), (10, .box (TCand.c x20))]) (next' := 11) rfl rfl rfl rfl rfl ?_
  refine GX.done ?_
  refine WK.regx mixed ?_
  refine GX.m rfl ?_
  refine GX.q (.ptr 10 0) ?_
  refine GX.q (.agg [.int .u32 x20.P.A, .int .i64 x20.P.N]) ?_
  refine GX.step0 (heap' := [(0, .box [.ptr 1 0, .own 6 3 0 f0.sets.length, .mapr 5]), (1, .box [.own 7 6 0 f0.t.l.length, .own 8 1 0 f0.t.free.length, .int .i64 f0.t.root, .int .i64 f0.t.n]), (5, .mq f0.atf.1 (f0.atf.2.map (encE (fun y => .int .i64 y)))), (6, .row 3 68 (f0.sets.map TGroup.c)), (7, .row 6 96 (f0.t.l.map TNode.c)), (8, .row 1 3 (f0.t.free.map c_i64)), (9, .mp ((setQ (fun (a b : TPrefix) => (decide (a.A = b.A) && (decide (a.N = b.N) && true))) stays6 x20.P true).map (encQ (fun k => .agg (TPrefix.c k)) (fun y => .bool y)))), (10, .box (TCand.c x20))]) (next' := 11) rfl rfl (core_msetF (kc := TPrefix.c) (eq := (fun (a b : TPrefix) => (decide (a.A = b.A) && (decide (a.N = b.N) && true)))) (e := (fun y => .bool y)) (q := x20.P) (y0 := true) (fun _ _ => rfl) rfl rfl rfl) rfl rfl ?_
  refine GX.done ?_
  refine WK.nil (QF.normal (hK112 _ ?_))
  refine WK.regx mixed ?_
  refine GX.pure (v' := .int .i64 ((i20 + 1 : Nat) : Int)) rfl rfl rfl rfl (congrArg (PVal.int .i64) (wrap_up hlt57 hlen_57)) ?_
  refine GX.m rfl ?_
  refine GX.done ?_
  refine WK.nil (QF.normal ?_)
  refine hagain_57 _ (l1.length - (i20 + 1)) _ (by omega) ?_ ⟨i20 + 1, (setQ (fun (a b : TPrefix) => (decide (a.A = b.A) && (decide (a.N = b.N) && true))) stays6 x20.P true), (by omega), rfl, hL_57, rfl⟩
  exact Conv.keepR [0, 1, 2, 3, 4, 5, 6, 7, 8, 9] [] [0, 1, 6, 18, 19, 20] rfl rfl (viewE_cons rfl rfl (viewE_cons rfl rfl (viewE_cons rfl rfl (viewE_cons rfl rfl (viewE_cons rfl rfl (viewE_cons rfl rfl viewE_nil)))))) rfl rfl

theorem f8n_ok (l1 : List TCand) (R : Int × Int) (hR : F8n_fib_Fib_Sync l1 = some R) : FnOk Tryd.prog 8 [.nilp, .ro 10 (l1.map TCand.c)] [] 0 (.tup [.int .i64 R.1, .int .i64 R.2]) [] 0 := by
 refine FnOk.wk i8 rfl rfl ?_
 unfold F8n_fib_Fib_Sync at hR
 try dsimp only at hR
 change WK _ _ _ [ac8] _ ⟨[(0, .nilp), (1, .ro 10 (l1.map TCand.c))], [], 0⟩
 unfold ac8
 refine WK.sr mixed ?_
 iterate 2 refine GX.m rfl ?_
 refine GX.done ?_
 refine WK.seq ?_
 refine WK.sr mixed ?_
 refine GX.m rfl ?_
 refine GX.q (.bool true) ?_
 refine GX.done ?_
 refine WK.condT rfl ?_
 refine WK.sr mixed ?_
 iterate 2 refine GX.m rfl ?_
 refine GX.done ?_
 refine WK.ret ?_
 obtain rfl := Option.some.inj hR
 exact RetQ.fr [] (.inr rfl) rfl rfl rfl rfl

theorem f13_ok (f0 : TFib) (a1 : Int) (flow2 : Int) (R : THop × Bool) (hR : F13_fib_Fib_Pick f0 a1 flow2 = some R) : FnOk Tryd.prog 13 [.ptr 0 0, .int .u32 a1, .int .u32 flow2] [(0, .box [.ptr 1 0, .own 4 3 0 f0.sets.length, .mapr 5]), (1, .box [.own 2 6 0 f0.t.l.length, .own 3 1 0 f0.t.free.length, .int .i64 f0.t.root, .int .i64 f0.t.n]), (2, .row 6 96 (f0.t.l.map TNode.c)), (3, .row 1 3 (f0.t.free.map c_i64)), (4, .row 3 68 (f0.sets.map TGroup.c)), (5, .mq f0.atf.1 (f0.atf.2.map (encE (fun y => .int .i64 y))))] 6 (.tup [.agg (THop.c R.1), .bool R.2]) [(0, .box [.ptr 1 0, .own 4 3 0 f0.sets.length, .mapr 5]), (1, .box [.own 2 6 0 f0.t.l.length, .own 3 1 0 f0.t.free.length, .int .i64 f0.t.root, .int .i64 f0.t.n]), (2, .row 6 96 (f0.t.l.map TNode.c)), (3, .row 1 3 (f0.t.free.map c_i64)), (4, .row 3 68 (f0.sets.map TGroup.c)), (5, .mq f0.atf.1 (f0.atf.2.map (encE (fun y => .int .i64 y))))] 6 := by
 refine FnOk.wk i13 rfl rfl ?_
 unfold F13_fib_Fib_Pick at hR
 try dsimp only at hR
 change WK _ _ _ [ac13] _ ⟨[(0, .ptr 0 0), (1, .int .u32 a1), (2, .int .u32 flow2)], [(0, .box [.ptr 1 0, .own 4 3 0 f0.sets.length, .mapr 5]), (1, .box [.own 2 6 0 f0.t.l.length, .own 3 1 0 f0.t.free.length, .int .i64 f0.t.root, .int .i64 f0.t.n]), (2, .row 6 96 (f0.t.l.map TNode.c)), (3, .row 1 3 (f0.t.free.map c_i64)), (4, .row 3 68 (f0.sets.map TGroup.c)), (5, .mq f0.atf.1 (f0.atf.2.map (encE (fun y => .int .i64 y))))], 6⟩
 unfold ac13
 refine WK.sr mixed ?_
 refine GX.step (v' := .ptr 6 0) (heap' := [(0, .box [.ptr 1 0, .own 4 3 0 f0.sets.length, .mapr 5]), (1, .box [.own 2 6 0 f0.t.l.length, .own 3 1 0 f0.t.free.length, .int .i64 f0.t.root, .int .i64 f0.t.n]), (2, .row 6 96 (f0.t.l.map TNode.c)), (3, .row 1 3 (f0.t.free.map c_i64)), (4, .row 3 68 (f0.sets.map TGroup.c)), (5, .mq f0.atf.1 (f0.atf.2.map (encE (fun y => .int .i64 y)))), (6, .box [.int .i64 0, .int .u32 0])]) (next' := 7) rfl rfl rfl rfl rfl rfl rfl ?_
 refine GX.m rfl ?_
 refine GX.done ?_
 refine WK.sr mixed ?_
 iterate 2 refine GX.m rfl ?_
 obtain ⟨c14, hc14, hR⟩ := obind_inv hR; try dsimp only at hR
 refine GX.callx (r' := .tup [.agg (TPrefix.c c14.1), .ro 2 (c14.2.1.map THop.c), .bool c14.2.2]) (heap' := [(0, .box [.ptr 1 0, .own 4 3 0 f0.sets.length, .mapr 5]), (1, .box [.own 2 6 0 f0.t.l.length, .own 3 1 0 f0.t.free.length, .int .i64 f0.t.root, .int .i64 f0.t.n]), (2, .row 6 96 (f0.t.l.map TNode.c)), (3, .row 1 3 (f0.t.free.map c_i64)), (4, .row 3 68 (f0.sets.map TGroup.c)), (5, .mq f0.atf.1 (f0.atf.2.map (encE (fun y => .int .i64 y)))), (6, .box [.int .i64 0, .int .u32 0])]) (next' := 7) [0, 1, 2, 3, 4, 5] [] rfl rfl rfl rfl rfl rfl (f9_ok f0 a1 _ hc14) (.inl rfl) rfl rfl rfl ?_
 refine GX.m rfl ?_
 refine GX.q (.agg (TPrefix.c c14.1)) ?_
 refine GX.q (.ro 2 (c14.2.1.map THop.c)) ?_
 refine GX.q (.bool c14.2.2) ?_
 refine GX.step (v' := .ptr 7 0) (heap' := [(0, .box [.ptr 1 0, .own 4 3 0 f0.sets.length, .mapr 5]), (1, .box [.own 2 6 0 f0.t.l.length, .own 3 1 0 f0.t.free.length, .int .i64 f0.t.root, .int .i64 f0.t.n]), (2, .row 6 96 (f0.t.l.map TNode.c)), (3, .row 1 3 (f0.t.free.map c_i64)), (4, .row 3 68 (f0.sets.map TGroup.c)), (5, .mq f0.atf.1 (f0.atf.2.map (encE (fun y => .int .i64 y)))), (6, .box [.int .i64 0, .int .u32 0]), (7, .box [.int .u32 0, .int .i64 0])]) (next' := 8) rfl rfl rfl rfl rfl rfl rfl ?_
 refine GX.step0 (heap' := [(0, .box [.ptr 1 0, .own 4 3 0 f0.sets.length, .mapr 5]), (1, .box [.own 2 6 0 f0.t.l.length, .own 3 1 0 f0.t.free.length, .int .i64 f0.t.root, .int .i64 f0.t.n]), (2, .row 6 96 (f0.t.l.map TNode.c)), (3, .row 1 3 (f0.t.free.map c_i64)), (4, .row 3 68 (f0.sets.map TGroup.c)), (5, .mq f0.atf.1 (f0.atf.2.map (encE (fun y => .int .i64 y)))), (6, .box [.int .i64 0, .int .u32 0]), (7, .box (TPrefix.c c14.1))]) (next' := 8) rfl rfl rfl rfl rfl ?_
 iterate 2 refine GX.m rfl ?_
 refine GX.done ?_
 refine WK.seq ?_
 refine WK.sr mixed ?_
 refine GX.m rfl ?_
 refine GX.q (.bool (!c14.2.2)) ?_
 refine GX.done ?_
 rcases bool_two (c14.2.2) with hb2 | hb2
 ·rw [hb2]; first | replace hR := cond_f hb2 hR | (try simp only [hb2, bb] at hR)
  refine WK.condT rfl ?_
  refine WK.sr mixed ?_
  refine GX.q (.agg [.int .i64 0, .int .u32 0]) ?_
  refine GX.step0 (heap' := [(0, .box [.ptr 1 0, .own 4 3 0 f0.sets.length, .mapr 5]), (1, .box [.own 2 6 0 f0.t.l.length, .own 3 1 0 f0.t.free.length, .int .i64 f0.t.root, .int .i64 f0.t.n]), (2, .row 6 96 (f0.t.l.map TNode.c)), (3, .row 1 3 (f0.t.free.map c_i64)), (4, .row 3 68 (f0.sets.map TGroup.c)), (5, .mq f0.atf.1 (f0.atf.2.map (encE (fun y => .int .i64 y)))), (6, .box [.int .i64 0, .int .u32 0]), (7, .box (TPrefix.c c14.1))]) (next' := 8) rfl rfl rfl rfl rfl ?_
  refine GX.m rfl ?_
  refine GX.done ?_
  refine WK.ret ?_
  obtain rfl := Option.some.inj hR
  exact RetQ.ret [0, 1, 2, 3, 4, 5] [] (.inr rfl) rfl rfl rfl rfl rfl .refl rfl
 ·rw [hb2]; first | replace hR := cond_t hb2 hR | (try simp only [hb2, bb] at hR)
  refine WK.condF rfl ?_
  refine WK.skip ?_
  refine WK.sr mixed ?_
  iterate 2 refine GX.m rfl ?_
  refine GX.q (.int .i64 (IntKind.i64.wrap flow2)) ?_
  refine GX.m rfl ?_
  refine GX.pure (v' := .int .i64 (c14.2.1.length : Int)) rfl rfl rfl rfl (len_map _ _) ?_
  rcases bool_two (decide ((c14.2.1.length : Int) ≠ 0)) with hg3 | hg3
  ·replace hR := cond_f hg3 hR
   cases hR
  replace hR := cond_t hg3 hR; try dsimp only at hR
  have hg3_ := of_decide_eq_true hg3
  refine GX.pure (v' := .int .i64 (Int.tmod (IntKind.i64.wrap flow2) (c14.2.1.length : Int))) rfl rfl rfl (core_remT (by omega)) rfl ?_
  obtain ⟨x903, hx903, hR⟩ := obind_inv hR; try dsimp only at hR
  obtain ⟨hx9030, hx903j, hx903l, hx903⟩ := getI_some hx903
  refine GX.idxT (c := THop.c) (x := x903) rfl rfl rfl hx9030 hx903 ?_
  refine GX.q (.agg (THop.c x903)) ?_
  refine GX.step0 (heap' := [(0, .box [.ptr 1 0, .own 4 3 0 f0.sets.length, .mapr 5]), (1, .box [.own 2 6 0 f0.t.l.length, .own 3 1 0 f0.t.free.length, .int .i64 f0.t.root, .int .i64 f0.t.n]), (2, .row 6 96 (f0.t.l.map TNode.c)), (3, .row 1 3 (f0.t.free.map c_i64)), (4, .row 3 68 (f0.sets.map TGroup.c)), (5, .mq f0.atf.1 (f0.atf.2.map (encE (fun y => .int .i64 y)))), (6, .box (THop.c x903)), (7, .box (TPrefix.c c14.1))]) (next' := 8) rfl rfl rfl rfl rfl ?_
  refine GX.m rfl ?_
  refine GX.done ?_
  refine WK.ret ?_
  obtain rfl := Option.some.inj hR
  exact RetQ.ret [0, 1, 2, 3, 4, 5] [] (.inr rfl) rfl rfl rfl rfl rfl .refl rfl

theorem f13n_ok (a1 : Int) (flow2 : Int) (R : THop × Bool) (hR : F13n_fib_Fib_Pick a1 flow2 = some R) : FnOk Tryd.prog 13 [.nilp, .int .u32 a1, .int .u32 flow2] [] 0 (.tup [.agg (THop.c R.1), .bool R.2]) [] 0 := by
 refine FnOk.wk i13 rfl rfl ?_
 unfold F13n_fib_Fib_Pick at hR
 try dsimp only at hR
 change WK _ _ _ [ac13] _ ⟨[(0, .nilp), (1, .int .u32 a1), (2, .int .u32 flow2)], [], 0⟩
 unfold ac13
 refine WK.sr mixed ?_
 refine GX.step (v' := .ptr 0 0) (heap' := [(0, .box [.int .i64 0, .int .u32 0])]) (next' := 1) rfl rfl rfl rfl rfl rfl rfl ?_
 refine GX.m rfl ?_
 refine GX.done ?_
 refine WK.sr mixed ?_
 iterate 2 refine GX.m rfl ?_
 obtain ⟨c14, hc14, hR⟩ := obind_inv hR; try dsimp only at hR
 refine GX.callp (r := .tup [.agg [.int .u32 c14.1.A, .int .i64 c14.1.N], .ro 2 (c14.2.1.map THop.c), .bool c14.2.2]) rfl rfl rfl (f9n_ok a1 _ hc14) rfl rfl ?_
 refine GX.m rfl ?_
 refine GX.q (.agg [.int .u32 c14.1.A, .int .i64 c14.1.N]) ?_
 refine GX.q (.ro 2 (c14.2.1.map THop.c)) ?_
 refine GX.q (.bool c14.2.2) ?_
 refine GX.step (v' := .ptr 1 0) (heap' := [(0, .box [.int .i64 0, .int .u32 0]), (1, .box [.int .u32 0, .int .i64 0])]) (next' := 2) rfl rfl rfl rfl rfl rfl rfl ?_
 refine GX.step0 (heap' := [(0, .box [.int .i64 0, .int .u32 0]), (1, .box (TPrefix.c c14.1))]) (next' := 2) rfl rfl rfl rfl rfl ?_
 iterate 2 refine GX.m rfl ?_
 refine GX.done ?_
 refine WK.seq ?_
 refine WK.sr mixed ?_
 refine GX.m rfl ?_
 refine GX.q (.bool (!c14.2.2)) ?_
 refine GX.done ?_
 rcases bool_two (c14.2.2) with hb1 | hb1
 ·rw [hb1]; first | replace hR := cond_f hb1 hR | (try simp only [hb1, bb] at hR)
  refine WK.condT rfl ?_
  refine WK.sr mixed ?_
  refine GX.q (.agg [.int .i64 0, .int .u32 0]) ?_
  refine GX.step0 (heap' := [(0, .box [.int .i64 0, .int .u32 0]), (1, .box (TPrefix.c c14.1))]) (next' := 2) rfl rfl rfl rfl rfl ?_
  refine GX.m rfl ?_
  refine GX.done ?_
  refine WK.ret ?_
  obtain rfl := Option.some.inj hR
  exact RetQ.fr [] (.inr rfl) rfl rfl rfl rfl
 ·rw [hb1]; first | replace hR := cond_t hb1 hR | (try simp only [hb1, bb] at hR)
  refine WK.condF rfl ?_
  refine WK.skip ?_
  refine WK.sr mixed ?_
  iterate 2 refine GX.m rfl ?_
  refine GX.q (.int .i64 (IntKind.i64.wrap flow2)) ?_
  refine GX.m rfl ?_
  refine GX.pure (v' := .int .i64 (c14.2.1.length : Int)) rfl rfl rfl rfl (len_map _ _) ?_
  rcases bool_two (decide ((c14.2.1.length : Int) ≠ 0)) with hg2 | hg2
  ·replace hR := cond_f hg2 hR
   cases hR
  replace hR := cond_t hg2 hR; try dsimp only at hR
  have hg2_ := of_decide_eq_true hg2
  refine GX.pure (v' := .int .i64 (Int.tmod (IntKind.i64.wrap flow2) (c14.2.1.length : Int))) rfl rfl rfl (core_remT (by omega)) rfl ?_
  obtain ⟨x902, hx902, hR⟩ := obind_inv hR; try dsimp only at hR
  obtain ⟨hx9020, hx902j, hx902l, hx902⟩ := getI_some hx902
  refine GX.idxT (c := THop.c) (x := x902) rfl rfl rfl hx9020 hx902 ?_
  refine GX.q (.agg (THop.c x902)) ?_
  refine GX.step0 (heap' := [(0, .box (THop.c x902)), (1, .box (TPrefix.c c14.1))]) (next' := 2) rfl rfl rfl rfl rfl ?_
  refine GX.m rfl ?_
  refine GX.done ?_
  refine WK.ret ?_
  obtain rfl := Option.some.inj hR
  exact RetQ.fr [] (.inr rfl) rfl rfl rfl rfl

theorem f16_ok (f0 : TFib) (R : (List TEntry)) (hR : F16_fib_Fib_All f0 = some R) : FnOk Tryd.prog 16 [.ptr 0 0] [(0, .box [.ptr 1 0, .own 4 3 0 f0.sets.length, .mapr 5]), (1, .box [.own 2 6 0 f0.t.l.length, .own 3 1 0 f0.t.free.length, .int .i64 f0.t.root, .int .i64 f0.t.n]), (2, .row 6 96 (f0.t.l.map TNode.c)), (3, .row 1 3 (f0.t.free.map c_i64)), (4, .row 3 68 (f0.sets.map TGroup.c)), (5, .mq f0.atf.1 (f0.atf.2.map (encE (fun y => .int .i64 y))))] 6 (.ro 3 (R.map TEntry.c)) [(0, .box [.ptr 1 0, .own 4 3 0 f0.sets.length, .mapr 5]), (1, .box [.own 2 6 0 f0.t.l.length, .own 3 1 0 f0.t.free.length, .int .i64 f0.t.root, .int .i64 f0.t.n]), (2, .row 6 96 (f0.t.l.map TNode.c)), (3, .row 1 3 (f0.t.free.map c_i64)), (4, .row 3 68 (f0.sets.map TGroup.c)), (5, .mq f0.atf.1 (f0.atf.2.map (encE (fun y => .int .i64 y))))] 6 := by
 refine FnOk.wk i16 rfl rfl ?_
 unfold F16_fib_Fib_All at hR
 try dsimp only at hR
 change WK _ _ _ [ac16] _ ⟨[(0, .ptr 0 0)], [(0, .box [.ptr 1 0, .own 4 3 0 f0.sets.length, .mapr 5]), (1, .box [.own 2 6 0 f0.t.l.length, .own 3 1 0 f0.t.free.length, .int .i64 f0.t.root, .int .i64 f0.t.n]), (2, .row 6 96 (f0.t.l.map TNode.c)), (3, .row 1 3 (f0.t.free.map c_i64)), (4, .row 3 68 (f0.sets.map TGroup.c)), (5, .mq f0.atf.1 (f0.atf.2.map (encE (fun y => .int .i64 y))))], 6⟩
 unfold ac16
 refine WK.sr mixed ?_
 refine GX.m rfl ?_
 refine GX.done ?_
 refine WK.seq ?_
 refine WK.sr mixed ?_
 refine GX.m rfl ?_
 refine GX.q (.bool false) ?_
 refine GX.done ?_
 refine WK.condF rfl ?_
 refine WK.skip ?_
 refine WK.sr mixed ?_
 refine GX.m rfl ?_
 iterate 2 refine GX.q (.ptr 0 0) ?_
 refine GX.q (.ptr 1 0) ?_
 obtain ⟨c9, hc9, hR⟩ := obind_inv hR; try dsimp only at hR
 try dsimp only at hR
 refine GX.callx (r' := .ro 3 (c9.map TEntry.c)) (heap' := [(0, .box [.ptr 1 0, .own 4 3 0 f0.sets.length, .mapr 5]), (1, .box [.own 2 6 0 f0.t.l.length, .own 3 1 0 f0.t.free.length, .int .i64 f0.t.root, .int .i64 f0.t.n]), (2, .row 6 96 (f0.t.l.map TNode.c)), (3, .row 1 3 (f0.t.free.map c_i64)), (4, .row 3 68 (f0.sets.map TGroup.c)), (5, .mq f0.atf.1 (f0.atf.2.map (encE (fun y => .int .i64 y))))]) (next' := 6) [1, 2, 3] [] rfl rfl rfl rfl rfl rfl (f18_ok f0.t _ hc9) (.inl rfl) rfl rfl rfl ?_
 refine GX.m rfl ?_
 refine GX.done ?_
 refine WK.ret ?_
 obtain rfl := Option.some.inj hR
 exact RetQ.ret [0, 1, 2, 3, 4, 5] [] (.inr rfl) rfl rfl rfl rfl rfl .refl rfl

theorem f16n_ok  (R : (List TEntry)) (hR : F16n_fib_Fib_All = some R) : FnOk Tryd.prog 16 [.nilp] [] 0 (.ro 3 (R.map TEntry.c)) [] 0 := by
 refine FnOk.wk i16 rfl rfl ?_
 unfold F16n_fib_Fib_All at hR
 try dsimp only at hR
 change WK _ _ _ [ac16] _ ⟨[(0, .nilp)], [], 0⟩
 unfold ac16
 refine WK.sr mixed ?_
 refine GX.m rfl ?_
 refine GX.done ?_
 refine WK.seq ?_
 refine WK.sr mixed ?_
 refine GX.m rfl ?_
 refine GX.q (.bool true) ?_
 refine GX.done ?_
 refine WK.condT rfl ?_
 refine WK.sr mixed ?_
 refine GX.m rfl ?_
 refine GX.done ?_
 refine WK.ret ?_
 obtain rfl := Option.some.inj hR
 exact RetQ.frw [] (.inr rfl) rfl rfl rfl .nil

theorem f4_ok (p0 : TPrefix) (a1 : Int) (l2 : List TCand) (R : Bool) (hR : F4_crossroadslaw27_FibNil p0 a1 l2 = some R) : FnOk Tryd.prog 4 [.agg (TPrefix.c p0), .int .u32 a1, .ro 10 (l2.map TCand.c)] [] 0 (.bool R) [] 0 := by
 refine FnOk.wk i4 rfl rfl ?_
 unfold F4_crossroadslaw27_FibNil at hR
 try dsimp only at hR
 change WK _ _ _ [ac4] _ ⟨[(0, .agg (TPrefix.c p0)), (1, .int .u32 a1), (2, .ro 10 (l2.map TCand.c))], [], 0⟩
 unfold ac4
 refine WK.sr mixed ?_
 refine GX.step (v' := .ptr 0 0) (heap' := [(0, .box (TPrefix.c p0))]) (next' := 1) rfl rfl rfl rfl rfl rfl rfl ?_
 refine GX.m rfl ?_
 refine GX.done ?_
 refine WK.sr mixed ?_
 refine GX.m rfl ?_
 refine GX.done ?_
 refine WK.sr mixed ?_
 iterate 2 refine GX.m rfl ?_
 obtain ⟨c18, hc18, hR⟩ := obind_inv hR; try dsimp only at hR
 refine GX.callp (r := .tup [.agg [.int .u32 c18.1.A, .int .i64 c18.1.N], .ro 2 (c18.2.1.map THop.c), .bool c18.2.2]) rfl rfl rfl (f9n_ok a1 _ hc18) rfl rfl ?_
 refine GX.m rfl ?_
 refine GX.q (.agg [.int .u32 c18.1.A, .int .i64 c18.1.N]) ?_
 refine GX.q (.ro 2 (c18.2.1.map THop.c)) ?_
 refine GX.q (.bool c18.2.2) ?_
 refine GX.step (v' := .ptr 1 0) (heap' := [(0, .box (TPrefix.c p0)), (1, .box [.int .u32 0, .int .i64 0])]) (next' := 2) rfl rfl rfl rfl rfl rfl rfl ?_
 refine GX.step0 (heap' := [(0, .box (TPrefix.c p0)), (1, .box (TPrefix.c c18.1))]) (next' := 2) rfl rfl rfl rfl rfl ?_
 iterate 2 refine GX.m rfl ?_
 refine GX.done ?_
 refine WK.sr mixed ?_
 iterate 3 refine GX.m rfl ?_
 obtain ⟨c26, hc26, hR⟩ := obind_inv hR; try dsimp only at hR
 refine GX.callp (r := .tup [.agg [.int .i64 c26.1.Iface, .int .u32 c26.1.Gate], .bool c26.2]) rfl rfl rfl (f13n_ok a1 a1 _ hc26) rfl rfl ?_
 refine GX.m rfl ?_
 refine GX.q (.agg [.int .i64 c26.1.Iface, .int .u32 c26.1.Gate]) ?_
 refine GX.q (.bool c26.2) ?_
 refine GX.step (v' := .ptr 2 0) (heap' := [(0, .box (TPrefix.c p0)), (1, .box (TPrefix.c c18.1)), (2, .box [.int .i64 0, .int .u32 0])]) (next' := 3) rfl rfl rfl rfl rfl rfl rfl ?_
 refine GX.step0 (heap' := [(0, .box (TPrefix.c p0)), (1, .box (TPrefix.c c18.1)), (2, .box (THop.c c26.1))]) (next' := 3) rfl rfl rfl rfl rfl ?_
 refine GX.m rfl ?_
 refine GX.done ?_
 refine WK.sr mixed ?_
 iterate 2 refine GX.m rfl ?_
 obtain ⟨c32, hc32, hR⟩ := obind_inv hR; try dsimp only at hR
 refine GX.callp (r := .tup [.int .i64 c32.1, .int .i64 c32.2]) rfl rfl rfl (f8n_ok l2 _ hc32) rfl rfl ?_
 refine GX.m rfl ?_
 refine GX.q (.int .i64 c32.1) ?_
 refine GX.q (.int .i64 c32.2) ?_
 iterate 2 refine GX.m rfl ?_
 refine GX.done ?_
 refine WK.sr mixed ?_
 obtain ⟨c35, hc35, hR⟩ := obind_inv hR; try dsimp only at hR
 try dsimp only at hR
 refine GX.callp (r := .bool c35) rfl rfl rfl (f7_ok  _ hc35) rfl rfl ?_
 refine GX.m rfl ?_
 rcases bool_two (c35) with hb1 | hb1
 ·rw [hb1]; first | replace hR := cond_f hb1 hR | (try simp only [hb1, bb] at hR)
  iterate 4 refine GX.skip rfl rfl ?_
  refine GX.q (.bool false) ?_
  refine GX.m rfl ?_
  iterate 4 refine GX.skip rfl rfl ?_
  refine GX.q (.bool false) ?_
  refine GX.m rfl ?_
  iterate 2 refine GX.skip rfl rfl ?_
  refine GX.q (.bool false) ?_
  refine GX.m rfl ?_
  iterate 2 refine GX.skip rfl rfl ?_
  refine GX.q (.bool false) ?_
  refine GX.m rfl ?_
  iterate 2 refine GX.skip rfl rfl ?_
  refine GX.q (.bool false) ?_
  refine GX.m rfl ?_
  iterate 2 refine GX.skip rfl rfl ?_
  refine GX.q (.bool false) ?_
  refine GX.m rfl ?_
  iterate 4 refine GX.skip rfl rfl ?_
  refine GX.q (.bool false) ?_
  refine GX.m rfl ?_
  iterate 3 refine GX.skip rfl rfl ?_
  refine GX.q (.bool false) ?_
  refine GX.m rfl ?_
  refine GX.done ?_
  refine WK.ret ?_
  obtain rfl := Option.some.inj hR
  exact RetQ.fr [] (.inr rfl) rfl rfl rfl rfl
 ·rw [hb1]; first | replace hR := cond_t hb1 hR | (try simp only [hb1, bb] at hR)
  refine GX.m rfl ?_
  refine GX.q (.agg (TPrefix.c p0)) ?_
  obtain ⟨c39, hc39, hR⟩ := obind_inv hR; try dsimp only at hR
  try dsimp only at hR
  refine GX.callp (r := .int .i64 c39) rfl rfl rfl (FnOk.weak (f14n_ok p0 ([] : List THop) _ hc39) (.cons .refl (.cons .refl (.cons .nil .refl)))) rfl rfl ?_
  iterate 2 refine GX.q (.bool (decide (c39 = 1))) ?_
  refine GX.m rfl ?_
  rcases bool_two (decide (c39 = 1)) with hb2 | hb2
  ·rw [hb2]; first | replace hR := cond_f hb2 hR | (try simp only [hb2, bb] at hR)
   iterate 4 refine GX.skip rfl rfl ?_
   refine GX.q (.bool false) ?_
   refine GX.m rfl ?_
   iterate 2 refine GX.skip rfl rfl ?_
   refine GX.q (.bool false) ?_
   refine GX.m rfl ?_
   iterate 2 refine GX.skip rfl rfl ?_
   refine GX.q (.bool false) ?_
   refine GX.m rfl ?_
   iterate 2 refine GX.skip rfl rfl ?_
   refine GX.q (.bool false) ?_
   refine GX.m rfl ?_
   iterate 2 refine GX.skip rfl rfl ?_
   refine GX.q (.bool false) ?_
   refine GX.m rfl ?_
   iterate 4 refine GX.skip rfl rfl ?_
   refine GX.q (.bool false) ?_
   refine GX.m rfl ?_
   iterate 3 refine GX.skip rfl rfl ?_
   refine GX.q (.bool false) ?_
   refine GX.m rfl ?_
   refine GX.done ?_
   refine WK.ret ?_
   obtain rfl := Option.some.inj hR
   exact RetQ.fr [] (.inr rfl) rfl rfl rfl rfl
  ·rw [hb2]; first | replace hR := cond_t hb2 hR | (try simp only [hb2, bb] at hR)
   refine GX.m rfl ?_
   refine GX.q (.agg (TPrefix.c p0)) ?_
   obtain ⟨c45, hc45, hR⟩ := obind_inv hR; try dsimp only at hR
   try dsimp only at hR
   refine GX.callp (r := .bool c45) rfl rfl rfl (f15n_ok p0 _ hc45) rfl rfl ?_
   iterate 2 refine GX.q (.bool (!c45)) ?_
   refine GX.m rfl ?_
   rcases bool_two (c45) with hb3 | hb3
   ·rw [hb3]; first | replace hR := cond_f hb3 hR | (try simp only [hb3, bb] at hR)
    refine GX.m rfl ?_
    iterate 2 refine GX.q (.bool (!c18.2.2)) ?_
    refine GX.m rfl ?_
    rcases bool_two (c18.2.2) with hb4 | hb4
    ·rw [hb4]; first | replace hR := cond_f hb4 hR | (try simp only [hb4, bb] at hR)
     refine GX.m rfl ?_
     iterate 2 refine GX.q (.bool (!c26.2)) ?_
     refine GX.m rfl ?_
     rcases bool_two (c26.2) with hb5 | hb5
     ·rw [hb5]; first | replace hR := cond_f hb5 hR | (try simp only [hb5, bb] at hR)
      refine GX.m rfl ?_
      iterate 2 refine GX.q (.bool (decide (c32.1 = 0))) ?_
      refine GX.m rfl ?_
      rcases bool_two (decide (c32.1 = 0)) with hb6 | hb6
      ·rw [hb6]; first | replace hR := cond_f hb6 hR | (try simp only [hb6, bb] at hR)
       iterate 2 refine GX.skip rfl rfl ?_
       refine GX.q (.bool false) ?_
       refine GX.m rfl ?_
       iterate 4 refine GX.skip rfl rfl ?_
       refine GX.q (.bool false) ?_
       refine GX.m rfl ?_
       iterate 3 refine GX.skip rfl rfl ?_
       refine GX.q (.bool false) ?_
       refine GX.m rfl ?_
       refine GX.done ?_
       refine WK.ret ?_
       obtain rfl := Option.some.inj hR
       exact RetQ.fr [] (.inr rfl) rfl rfl rfl rfl
      ·rw [hb6]; first | replace hR := cond_t hb6 hR | (try simp only [hb6, bb] at hR)
       refine GX.m rfl ?_
       iterate 2 refine GX.q (.bool (decide (c32.2 = 0))) ?_
       refine GX.m rfl ?_
       rcases bool_two (decide (c32.2 = 0)) with hb7 | hb7
       ·rw [hb7]; first | replace hR := cond_f hb7 hR | (try simp only [hb7, bb] at hR)
        iterate 4 refine GX.skip rfl rfl ?_
        refine GX.q (.bool false) ?_
        refine GX.m rfl ?_
        iterate 3 refine GX.skip rfl rfl ?_
        refine GX.q (.bool false) ?_
        refine GX.m rfl ?_
        refine GX.done ?_
        refine WK.ret ?_
        obtain rfl := Option.some.inj hR
        exact RetQ.fr [] (.inr rfl) rfl rfl rfl rfl
       ·rw [hb7]; first | replace hR := cond_t hb7 hR | (try simp only [hb7, bb] at hR)
        refine GX.m rfl ?_
        obtain ⟨c66, hc66, hR⟩ := obind_inv hR; try dsimp only at hR
        try dsimp only at hR
        refine GX.callp (r := .ro 3 (c66.map TEntry.c)) rfl rfl rfl (f16n_ok  _ hc66) rfl rfl ?_
        refine GX.pure (v' := .int .i64 (c66.length : Int)) rfl rfl rfl rfl (len_map _ _) ?_
        iterate 2 refine GX.q (.bool (decide ((c66.length : Int) = 0))) ?_
        refine GX.m rfl ?_
        rcases bool_two (decide ((c66.length : Int) = 0)) with hb8 | hb8
        ·rw [hb8]; first | replace hR := cond_f hb8 hR | (try simp only [hb8, bb] at hR)
         iterate 3 refine GX.skip rfl rfl ?_
         refine GX.q (.bool false) ?_
         refine GX.m rfl ?_
         refine GX.done ?_
         refine WK.ret ?_
         obtain rfl := Option.some.inj hR
         exact RetQ.fr [] (.inr rfl) rfl rfl rfl rfl
        ·rw [hb8]; first | replace hR := cond_t hb8 hR | (try simp only [hb8, bb] at hR)
         refine GX.m rfl ?_
         obtain ⟨c72, hc72, hR⟩ := obind_inv hR; try dsimp only at hR
         try dsimp only at hR
         refine GX.callp (r := .int .i64 c72) rfl rfl rfl (f12n_ok  _ hc72) rfl rfl ?_
         iterate 2 refine GX.q (.bool (decide (c72 = 0))) ?_
         refine GX.m rfl ?_
         refine GX.done ?_
         refine WK.ret ?_
         obtain rfl := Option.some.inj hR
         exact RetQ.fr [] (.inr rfl) rfl rfl rfl rfl
     ·rw [hb5]; first | replace hR := cond_t hb5 hR | (try simp only [hb5, bb] at hR)
      iterate 2 refine GX.skip rfl rfl ?_
      refine GX.q (.bool false) ?_
      refine GX.m rfl ?_
      iterate 2 refine GX.skip rfl rfl ?_
      refine GX.q (.bool false) ?_
      refine GX.m rfl ?_
      iterate 4 refine GX.skip rfl rfl ?_
      refine GX.q (.bool false) ?_
      refine GX.m rfl ?_
      iterate 3 refine GX.skip rfl rfl ?_
      refine GX.q (.bool false) ?_
      refine GX.m rfl ?_
      refine GX.done ?_
      refine WK.ret ?_
      obtain rfl := Option.some.inj hR
      exact RetQ.fr [] (.inr rfl) rfl rfl rfl rfl
    ·rw [hb4]; first | replace hR := cond_t hb4 hR | (try simp only [hb4, bb] at hR)
     iterate 2 refine GX.skip rfl rfl ?_
     refine GX.q (.bool false) ?_
     refine GX.m rfl ?_
     iterate 2 refine GX.skip rfl rfl ?_
     refine GX.q (.bool false) ?_
     refine GX.m rfl ?_
     iterate 2 refine GX.skip rfl rfl ?_
     refine GX.q (.bool false) ?_
     refine GX.m rfl ?_
     iterate 4 refine GX.skip rfl rfl ?_
     refine GX.q (.bool false) ?_
     refine GX.m rfl ?_
     iterate 3 refine GX.skip rfl rfl ?_
     refine GX.q (.bool false) ?_
     refine GX.m rfl ?_
     refine GX.done ?_
     refine WK.ret ?_
     obtain rfl := Option.some.inj hR
     exact RetQ.fr [] (.inr rfl) rfl rfl rfl rfl
   ·rw [hb3]; first | replace hR := cond_t hb3 hR | (try simp only [hb3, bb] at hR)
    iterate 2 refine GX.skip rfl rfl ?_
    refine GX.q (.bool false) ?_
    refine GX.m rfl ?_
    iterate 2 refine GX.skip rfl rfl ?_
    refine GX.q (.bool false) ?_
    refine GX.m rfl ?_
    iterate 2 refine GX.skip rfl rfl ?_
    refine GX.q (.bool false) ?_
    refine GX.m rfl ?_
    iterate 2 refine GX.skip rfl rfl ?_
    refine GX.q (.bool false) ?_
    refine GX.m rfl ?_
    iterate 4 refine GX.skip rfl rfl ?_
    refine GX.q (.bool false) ?_
    refine GX.m rfl ?_
    iterate 3 refine GX.skip rfl rfl ?_
    refine GX.q (.bool false) ?_
    refine GX.m rfl ?_
    refine GX.done ?_
    refine WK.ret ?_
    obtain rfl := Option.some.inj hR
    exact RetQ.fr [] (.inr rfl) rfl rfl rfl rfl

end Go.Proofs.YtakallenldpkiaaDoor.Abs
