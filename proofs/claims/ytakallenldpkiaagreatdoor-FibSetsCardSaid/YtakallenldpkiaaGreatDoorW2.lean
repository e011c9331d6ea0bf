/- The functions walked: each computes its Lean function (printed by this work's own program gen.py). -/
import Derived.Test.YtakallenldpkiaaGreatDoorSb
import Derived.Test.YtakallenldpkiaaGreatDoorW1
set_option linter.unusedVariables false
set_option linter.unusedSimpArgs false
set_option maxRecDepth 10000
set_option maxHeartbeats 4000000
namespace Go.Proofs.YtakallenldpkiaaGreatDoor.Abs
open Go
theorem f16_ok (f0:TFib) (p1:qk) (hops2:List THop) (R:Int × TFib) (hR:F16 f0 p1 hops2 = some R):FnOk Tryz.prog 16 [.ptr 0 0,.agg (qk.c p1),.ro 2 (hops2.map THop.c)] [(0,.box [.ptr 1 0,.own 4 3 0 f0.sets.length,.mapr 5]),(1,.box [.own 2 6 0 f0.t.l.length,.own 3 1 0 f0.t.free.length,.int .i64 f0.t.root,.int .i64 f0.t.n]),(2,.row 6 101 (f0.t.l.map TNode.c)),(3,.row 1 3 (f0.t.free.map c_i64)),(4,.row 3 71 (f0.sets.map TGroup.c)),(5,.mq f0.atf.1 (f0.atf.2.map (encE (fun y=>.int .i64 y))))] 6 (.int .i64 R.1) [(0,.box [.ptr 1 0,.own 8 3 0 R.2.sets.length,.mapr 5]),(1,.box [.own 6 6 0 R.2.t.l.length,.own 7 1 0 R.2.t.free.length,.int .i64 R.2.t.root,.int .i64 R.2.t.n]),(5,.mq R.2.atf.1 (R.2.atf.2.map (encE (fun y=>.int .i64 y)))),(6,.row 6 101 (R.2.t.l.map TNode.c)),(7,.row 1 3 (R.2.t.free.map c_i64)),(8,.row 3 71 (R.2.sets.map TGroup.c))] 9:=by
 refine FnOk.wk i16 rfl rfl ?_
 unfold F16 at hR
 try dsimp only at hR
 change WK _ _ _ [ac16] _ ⟨[(0,.ptr 0 0),(1,.agg (qk.c p1)),(2,.ro 2 (hops2.map THop.c))],[(0,.box [.ptr 1 0,.own 4 3 0 f0.sets.length,.mapr 5]),(1,.box [.own 2 6 0 f0.t.l.length,.own 3 1 0 f0.t.free.length,.int .i64 f0.t.root,.int .i64 f0.t.n]),(2,.row 6 101 (f0.t.l.map TNode.c)),(3,.row 1 3 (f0.t.free.map c_i64)),(4,.row 3 71 (f0.sets.map TGroup.c)),(5,.mq f0.atf.1 (f0.atf.2.map (encE (fun y=>.int .i64 y))))],6⟩
 unfold ac16
 refine WK.mvB (id:=1) (j:=0) (zx:=[(0,.box [.ptr 1 0,.own 4 3 0 f0.sets.length,.mapr 5]),(1,.box [.own 6 6 0 f0.t.l.length,.own 3 1 0 f0.t.free.length,.int .i64 f0.t.root,.int .i64 f0.t.n]),(3,.row 1 3 (f0.t.free.map c_i64)),(4,.row 3 71 (f0.sets.map TGroup.c)),(5,.mq f0.atf.1 (f0.atf.2.map (encE (fun y=>.int .i64 y)))),(6,.row 6 101 (f0.t.l.map TNode.c))]) rfl rfl rfl (by simp) rfl (WK.mvB (id:=1) (j:=1) (zx:=[(0,.box [.ptr 1 0,.own 4 3 0 f0.sets.length,.mapr 5]),(1,.box [.own 6 6 0 f0.t.l.length,.own 7 1 0 f0.t.free.length,.int .i64 f0.t.root,.int .i64 f0.t.n]),(4,.row 3 71 (f0.sets.map TGroup.c)),(5,.mq f0.atf.1 (f0.atf.2.map (encE (fun y=>.int .i64 y)))),(6,.row 6 101 (f0.t.l.map TNode.c)),(7,.row 1 3 (f0.t.free.map c_i64))]) rfl rfl rfl (by simp) rfl (WK.mvB (id:=0) (j:=1) (zx:=[(0,.box [.ptr 1 0,.own 8 3 0 f0.sets.length,.mapr 5]),(1,.box [.own 6 6 0 f0.t.l.length,.own 7 1 0 f0.t.free.length,.int .i64 f0.t.root,.int .i64 f0.t.n]),(5,.mq f0.atf.1 (f0.atf.2.map (encE (fun y=>.int .i64 y)))),(6,.row 6 101 (f0.t.l.map TNode.c)),(7,.row 1 3 (f0.t.free.map c_i64)),(8,.row 3 71 (f0.sets.map TGroup.c))]) rfl rfl rfl (by simp) rfl (WK.sr mixed (GX.step (v':=.ptr 9 0) (zx:=[(0,.box [.ptr 1 0,.own 8 3 0 f0.sets.length,.mapr 5]),(1,.box [.own 6 6 0 f0.t.l.length,.own 7 1 0 f0.t.free.length,.int .i64 f0.t.root,.int .i64 f0.t.n]),(5,.mq f0.atf.1 (f0.atf.2.map (encE (fun y=>.int .i64 y)))),(6,.row 6 101 (f0.t.l.map TNode.c)),(7,.row 1 3 (f0.t.free.map c_i64)),(8,.row 3 71 (f0.sets.map TGroup.c)),(9,.box (qk.c p1))]) (zy:=10) rfl rfl rfl rfl rfl rfl rfl (GX.m rfl (GX.done (WK.sr mixed (GX.m rfl ?_))))))))
 obtain ⟨c10,hc10,hR⟩:=zz hR; try dsimp only at hR
 try dsimp only at hR
 refine GX.callp (r:=.ro 2 (c10.map THop.c)) rfl rfl rfl (f24_ok hops2 _ hc10) rfl rfl (GX.m rfl (GX.done (WK.seq (WK.sr mixed (GX.m rfl (GX.q (.bool false) (GX.m rfl (GX.q (.agg (qk.c p1)) ?_))))))))
 generalize hc15:F28 p1 = c15 at hR
 try dsimp only at hR
 refine GX.callp (r:=.bool c15) rfl rfl rfl (f28_ok p1 _ hc15) rfl rfl (GX.q (.bool (!c15)) (GX.q (.bool (!c15)) (GX.m rfl ?_)))
 rcases qq (c15) with hb1 | hb1
 ·rw [hb1]; first | replace hR:=wz hb1 hR | (try simp only [hb1,bb] at hR)
  refine GX.skip rfl rfl (GX.skip rfl rfl (GX.skip rfl rfl (GX.q (.bool true) (GX.m rfl (GX.skip rfl rfl (GX.skip rfl rfl (GX.skip rfl rfl (GX.q (.bool true) (GX.done (WK.condT rfl (WK.sr mixed (GX.m rfl (GX.done ?_)))))))))))))
  refine WK.ret ?_
  obtain rfl:=Option.some.inj hR
  exact RetQ.ret [0,1,2,3,4,5,6,7,8] [] (.inr rfl) rfl rfl rfl rfl rfl .refl rfl
 ·rw [hb1]; first | replace hR:=wy hb1 hR | (try simp only [hb1,bb] at hR)
  refine GX.m rfl ?_
  refine GX.pure (v':=.int .i64 (c10.length:Int)) rfl rfl rfl rfl (zj _ _) ?_
  iterate 2 refine GX.q (.bool (decide ((c10.length:Int) = 0))) ?_
  refine GX.m rfl ?_
  rcases qq (decide ((c10.length:Int) = 0)) with hb2 | hb2
  ·rw [hb2]; first | replace hR:=wz hb2 hR | (try simp only [hb2,bb] at hR)
   refine GX.m rfl ?_
   refine GX.pure (v':=.int .i64 (c10.length:Int)) rfl rfl rfl rfl (zj _ _) ?_
   iterate 2 refine GX.q (.bool (decide (8 < (c10.length:Int)))) ?_
   refine GX.done ?_
   rcases qq (decide (8 < (c10.length:Int))) with hb3 | hb3
   ·rw [hb3]; first | replace hR:=wz hb3 hR | (try simp only [hb3,bb] at hR)
    refine WK.condF rfl (WK.skip (WK.seq (WK.sr mixed (GX.m rfl (GX.q (.agg (qk.c p1)) (GX.m rfl ?_))))))
    obtain ⟨c31,hc31,hR⟩:=zz hR; try dsimp only at hR
    try dsimp only at hR
    refine GX.callx (r':=.bool c31) (zx:=[(0,.box [.ptr 1 0,.own 8 3 0 f0.sets.length,.mapr 5]),(1,.box [.own 6 6 0 f0.t.l.length,.own 7 1 0 f0.t.free.length,.int .i64 f0.t.root,.int .i64 f0.t.n]),(5,.mq f0.atf.1 (f0.atf.2.map (encE (fun y=>.int .i64 y)))),(6,.row 6 101 (f0.t.l.map TNode.c)),(7,.row 1 3 (f0.t.free.map c_i64)),(8,.row 3 71 (f0.sets.map TGroup.c)),(9,.box (qk.c p1))]) (zy:=10) [0,1,6,7,8,5] [] rfl rfl rfl rfl rfl rfl (f23_ok f0 p1 c10 _ hc31) (.inl rfl) rfl rfl rfl (GX.done ?_)
    rcases qq (c31) with hb5 | hb5
    ·rw [hb5]; first | replace hR:=wz hb5 hR | (try simp only [hb5,bb] at hR)
     refine WK.condF rfl (WK.skip (WK.seq (WK.sr mixed (GX.m rfl (GX.q (.agg (qk.c p1)) ?_)))))
     obtain ⟨c34,hc34,hR⟩:=zz hR; try dsimp only at hR
     refine GX.callx (r':=.bool c34.1) (zx:=[(0,.box [.ptr 1 0,.own 12 3 0 c34.2.sets.length,.mapr 5]),(1,.box [.own 10 6 0 c34.2.t.l.length,.own 11 1 0 c34.2.t.free.length,.int .i64 c34.2.t.root,.int .i64 c34.2.t.n]),(5,.mq c34.2.atf.1 (c34.2.atf.2.map (encE (fun y=>.int .i64 y)))),(9,.box (qk.c p1)),(12,.row 3 71 (c34.2.sets.map TGroup.c)),(11,.row 1 3 (c34.2.t.free.map c_i64)),(10,.row 6 101 (c34.2.t.l.map TNode.c))]) (zy:=13) [0,1,6,7,8,5] [] rfl rfl rfl rfl rfl rfl (f19_ok f0 p1 _ hc34) (.inl rfl) rfl rfl rfl (GX.q (.bool (!c34.1)) (GX.done ?_))
     rcases qq (c34.1) with hb7 | hb7
     ·rw [hb7]; first | replace hR:=wz hb7 hR | (try simp only [hb7,bb] at hR)
      refine WK.condT rfl (WK.seq (WK.drawn mixed (RD.m rfl (RD.nilc 0 rfl rfl rfl rfl rfl (RD.fldc 0 rfl rfl rfl rfl rfl (RD.loadc (.ptr 1 0) rfl rfl rfl rfl rfl (RD.q (.agg (qk.c p1)) ?_)))))))
      obtain ⟨c41,hc41,hR⟩:=zz hR; try dsimp only at hR
      refine RD.callx (r':=.int .i64 c41.1) (zx:=[(0,.box [.ptr 1 0,.own 12 3 0 c34.2.sets.length,.mapr 5]),(1,.box [.own 13 6 0 c41.2.l.length,.own 14 1 0 c41.2.free.length,.int .i64 c41.2.root,.int .i64 c41.2.n]),(5,.mq c34.2.atf.1 (c34.2.atf.2.map (encE (fun y=>.int .i64 y)))),(9,.box (qk.c p1)),(12,.row 3 71 (c34.2.sets.map TGroup.c)),(14,.row 1 3 (c41.2.free.map c_i64)),(13,.row 6 101 (c41.2.l.map TNode.c))]) (zy:=15) [1,10,11] [] rfl rfl rfl rfl rfl rfl (f29_ok c34.2.t p1 0 _ hc41) (.inl rfl) rfl rfl rfl (RD.m rfl (RD.done rfl (WK.sr mixed (GX.m rfl (GX.q (.bool (!decide (c41.1 = 0))) (GX.done ?_))))))
      rcases qq (decide (c41.1 = 0)) with hb9 | hb9
      ·rw [hb9]; first | replace hR:=wz hb9 hR | (try simp only [hb9,bb] at hR)
       refine WK.condT rfl (WK.sr mixed (GX.m rfl (GX.m rfl (GX.done (WK.ret ?_)))))
       obtain rfl:=Option.some.inj hR
       exact RetQ.ret [0,1,2,3,4,5,13,14,12] [] (.inr rfl) rfl rfl rfl rfl rfl .refl rfl
      ·rw [hb9]; first | replace hR:=wy hb9 hR | (try simp only [hb9,bb] at hR)
       refine WK.condF rfl (WK.skip (WK.seq (WK.drawn mixed (RD.m rfl (RD.nilc 0 rfl rfl rfl rfl rfl (RD.fldc 0 rfl rfl rfl rfl rfl (RD.loadc (.ptr 1 0) rfl rfl rfl rfl rfl (RD.q (.agg (qk.c p1)) (RD.m rfl (RD.m rfl ?_))))))))))
       obtain ⟨c52,hc52,hR⟩:=zz hR; try dsimp only at hR
       refine RD.callxk (r':=.int .i64 c52.1) (zx:=[(0,.box [.ptr 1 0,.own 17 3 0 c52.2.sets.length,.mapr 5]),(1,.box [.own 15 6 0 c52.2.t.l.length,.own 16 1 0 c52.2.t.free.length,.int .i64 c52.2.t.root,.int .i64 c52.2.t.n]),(5,.mq c52.2.atf.1 (c52.2.atf.2.map (encE (fun y=>.int .i64 y)))),(9,.box (qk.c p1)),(17,.row 3 71 (c52.2.sets.map TGroup.c)),(16,.row 1 3 (c52.2.t.free.map c_i64)),(15,.row 6 101 (c52.2.t.l.map TNode.c))]) (zy:=18) [(0,0)] (by simp only [List.forall_mem_cons]; exact ⟨rfl,fun x hx=>by cases hx⟩) [0,1,13,14,12,5] [] rfl rfl rfl rfl rfl rfl (f30_ok (⟨c41.2,c34.2.sets,c34.2.atf⟩ : TFib) c10 _ hc52) (.inl rfl) rfl rfl rfl ?_
       obtain ⟨c53,hc53,hR⟩:=zz hR; try dsimp only at hR
       refine RD.callx (r':=.int .i64 c53.1) (zx:=[(0,.box [.ptr 1 0,.own 17 3 0 c52.2.sets.length,.mapr 5]),(1,.box [.own 18 6 0 c53.2.l.length,.own 19 1 0 c53.2.free.length,.int .i64 c53.2.root,.int .i64 c53.2.n]),(5,.mq c52.2.atf.1 (c52.2.atf.2.map (encE (fun y=>.int .i64 y)))),(9,.box (qk.c p1)),(17,.row 3 71 (c52.2.sets.map TGroup.c)),(19,.row 1 3 (c53.2.free.map c_i64)),(18,.row 6 101 (c53.2.l.map TNode.c))]) (zy:=20) [1,15,16] [] rfl rfl rfl rfl rfl rfl (f29_ok c52.2.t p1 c52.1 _ hc53) (.inl rfl) rfl rfl rfl (RD.m rfl (RD.done rfl (WK.ret ?_)))
       obtain rfl:=Option.some.inj hR
       exact RetQ.ret [0,1,2,3,4,5,18,19,17] [] (.inr rfl) rfl rfl rfl rfl rfl .refl rfl
     ·rw [hb7]; first | replace hR:=wy hb7 hR | (try simp only [hb7,bb] at hR)
      refine WK.condF rfl (WK.skip (WK.seq (WK.drawn mixed (RD.m rfl (RD.nilc 0 rfl rfl rfl rfl rfl (RD.fldc 0 rfl rfl rfl rfl rfl (RD.loadc (.ptr 1 0) rfl rfl rfl rfl rfl (RD.q (.agg (qk.c p1)) (RD.m rfl (RD.m rfl ?_))))))))))
      obtain ⟨c52,hc52,hR⟩:=zz hR; try dsimp only at hR
      refine RD.callxk (r':=.int .i64 c52.1) (zx:=[(0,.box [.ptr 1 0,.own 15 3 0 c52.2.sets.length,.mapr 5]),(1,.box [.own 13 6 0 c52.2.t.l.length,.own 14 1 0 c52.2.t.free.length,.int .i64 c52.2.t.root,.int .i64 c52.2.t.n]),(5,.mq c52.2.atf.1 (c52.2.atf.2.map (encE (fun y=>.int .i64 y)))),(9,.box (qk.c p1)),(15,.row 3 71 (c52.2.sets.map TGroup.c)),(14,.row 1 3 (c52.2.t.free.map c_i64)),(13,.row 6 101 (c52.2.t.l.map TNode.c))]) (zy:=16) [(0,0)] (by simp only [List.forall_mem_cons]; exact ⟨rfl,fun x hx=>by cases hx⟩) [0,1,10,11,12,5] [] rfl rfl rfl rfl rfl rfl (f30_ok c34.2 c10 _ hc52) (.inl rfl) rfl rfl rfl ?_
      obtain ⟨c53,hc53,hR⟩:=zz hR; try dsimp only at hR
      refine RD.callx (r':=.int .i64 c53.1) (zx:=[(0,.box [.ptr 1 0,.own 15 3 0 c52.2.sets.length,.mapr 5]),(1,.box [.own 16 6 0 c53.2.l.length,.own 17 1 0 c53.2.free.length,.int .i64 c53.2.root,.int .i64 c53.2.n]),(5,.mq c52.2.atf.1 (c52.2.atf.2.map (encE (fun y=>.int .i64 y)))),(9,.box (qk.c p1)),(15,.row 3 71 (c52.2.sets.map TGroup.c)),(17,.row 1 3 (c53.2.free.map c_i64)),(16,.row 6 101 (c53.2.l.map TNode.c))]) (zy:=18) [1,13,14] [] rfl rfl rfl rfl rfl rfl (f29_ok c52.2.t p1 c52.1 _ hc53) (.inl rfl) rfl rfl rfl (RD.m rfl (RD.done rfl (WK.ret ?_)))
      obtain rfl:=Option.some.inj hR
      exact RetQ.ret [0,1,2,3,4,5,16,17,15] [] (.inr rfl) rfl rfl rfl rfl rfl .refl rfl
    ·rw [hb5]; first | replace hR:=wy hb5 hR | (try simp only [hb5,bb] at hR)
     refine WK.condT rfl (WK.sr mixed (GX.m rfl (GX.done (WK.ret ?_))))
     obtain rfl:=Option.some.inj hR
     exact RetQ.ret [0,1,2,3,4,5,6,7,8] [] (.inr rfl) rfl rfl rfl rfl rfl .refl rfl
   ·rw [hb3]; first | replace hR:=wy hb3 hR | (try simp only [hb3,bb] at hR)
    refine WK.condT rfl (WK.sr mixed (GX.m rfl (GX.done (WK.ret ?_))))
    obtain rfl:=Option.some.inj hR
    exact RetQ.ret [0,1,2,3,4,5,6,7,8] [] (.inr rfl) rfl rfl rfl rfl rfl .refl rfl
  ·rw [hb2]; first | replace hR:=wy hb2 hR | (try simp only [hb2,bb] at hR)
   refine GX.skip rfl rfl (GX.skip rfl rfl (GX.skip rfl rfl (GX.q (.bool true) (GX.done (WK.condT rfl (WK.sr mixed (GX.m rfl (GX.done (WK.ret ?_)))))))))
   obtain rfl:=Option.some.inj hR
   exact RetQ.ret [0,1,2,3,4,5,6,7,8] [] (.inr rfl) rfl rfl rfl rfl rfl .refl rfl
theorem f17_ok (f0:TFib) (R:Int) (hR:F17 f0 = some R):FnOk Tryz.prog 17 [.ptr 0 0] [(0,.box [.ptr 1 0,.own 4 3 0 f0.sets.length,.mapr 5]),(1,.box [.own 2 6 0 f0.t.l.length,.own 3 1 0 f0.t.free.length,.int .i64 f0.t.root,.int .i64 f0.t.n]),(2,.row 6 101 (f0.t.l.map TNode.c)),(3,.row 1 3 (f0.t.free.map c_i64)),(4,.row 3 71 (f0.sets.map TGroup.c)),(5,.mq f0.atf.1 (f0.atf.2.map (encE (fun y=>.int .i64 y))))] 6 (.int .i64 R) [(0,.box [.ptr 1 0,.own 4 3 0 f0.sets.length,.mapr 5]),(1,.box [.own 2 6 0 f0.t.l.length,.own 3 1 0 f0.t.free.length,.int .i64 f0.t.root,.int .i64 f0.t.n]),(2,.row 6 101 (f0.t.l.map TNode.c)),(3,.row 1 3 (f0.t.free.map c_i64)),(4,.row 3 71 (f0.sets.map TGroup.c)),(5,.mq f0.atf.1 (f0.atf.2.map (encE (fun y=>.int .i64 y))))] 6:=by
 refine FnOk.wk i17 rfl rfl ?_
 unfold F17 at hR
 try dsimp only at hR
 change WK _ _ _ [ac17] _ ⟨[(0,.ptr 0 0)],[(0,.box [.ptr 1 0,.own 4 3 0 f0.sets.length,.mapr 5]),(1,.box [.own 2 6 0 f0.t.l.length,.own 3 1 0 f0.t.free.length,.int .i64 f0.t.root,.int .i64 f0.t.n]),(2,.row 6 101 (f0.t.l.map TNode.c)),(3,.row 1 3 (f0.t.free.map c_i64)),(4,.row 3 71 (f0.sets.map TGroup.c)),(5,.mq f0.atf.1 (f0.atf.2.map (encE (fun y=>.int .i64 y))))],6⟩
 unfold ac17
 refine WK.sr mixed (GX.m rfl (GX.done (WK.seq (WK.sr mixed (GX.m rfl (GX.q (.bool false) (GX.done (WK.condF rfl (WK.skip (WK.sr mixed (GX.m rfl (GX.q (.ptr 0 0) (GX.q (.ptr 0 2) ?_)))))))))))))
 refine GX.q (.mapr 5) (GX.pure (v':=.int .i64 (f0.atf.2.length:Int)) rfl rfl rfl rfl (len_mapE _) (GX.m rfl (GX.done (WK.ret ?_))))
 obtain rfl:=Option.some.inj hR
 exact RetQ.ret [0,1,2,3,4,5] [] (.inr rfl) rfl rfl rfl rfl rfl .refl rfl
theorem f7_ok  (R:Bool) (hR:F7 = some R):FnOk Tryz.prog 7 [] [] 0 (.bool R) [] 0:=by
 refine FnOk.wk i7 rfl rfl ?_
 unfold F7 at hR
 try dsimp only at hR
 change WK _ _ _ [ac7] _ ⟨[],[],0⟩
 unfold ac7
 refine WK.sr mixed (GX.m rfl (GX.done (WK.sr mixed ?_)))
 generalize hc8:F5 = c8 at hR
 try dsimp only at hR
 refine GX.callx (r':=.ptr 0 0) (zx:=[(5,.mq c8.atf.1 (c8.atf.2.map (encE (fun y=>.int .i64 y)))),(4,.row 3 71 (c8.sets.map TGroup.c)),(3,.row 1 3 (c8.t.free.map c_i64)),(2,.row 6 101 (c8.t.l.map TNode.c)),(1,.box [.own 2 6 0 c8.t.l.length,.own 3 1 0 c8.t.free.length,.int .i64 c8.t.root,.int .i64 c8.t.n]),(0,.box [.ptr 1 0,.own 4 3 0 c8.sets.length,.mapr 5])]) (zy:=6) [] [] rfl rfl rfl rfl rfl rfl (f5_ok  _ hc8) (.inl rfl) rfl rfl rfl (GX.m rfl (GX.done (WK.seq (WK.sr mixed (GX.m rfl (GX.q (.bool false) (GX.done (WK.condF rfl (WK.skip (WK.sr mixed (GX.q (.agg [.int .i64 3,.int .u32 0]) (GX.q (.agg [.int .i64 1,.int .u32 0]) (GX.q (.agg [.int .i64 3,.int .u32 0]) ?_)))))))))))))
 refine GX.step (v':=.own 6 2 0 (([(⟨3,0⟩ : THop),(⟨1,0⟩ : THop),(⟨3,0⟩ : THop)]:List THop)).length) (zx:=[(5,.mq c8.atf.1 (c8.atf.2.map (encE (fun y=>.int .i64 y)))),(4,.row 3 71 (c8.sets.map TGroup.c)),(3,.row 1 3 (c8.t.free.map c_i64)),(2,.row 6 101 (c8.t.l.map TNode.c)),(1,.box [.own 2 6 0 c8.t.l.length,.own 3 1 0 c8.t.free.length,.int .i64 c8.t.root,.int .i64 c8.t.n]),(0,.box [.ptr 1 0,.own 4 3 0 c8.sets.length,.mapr 5]),(6,.row 2 63 (([(⟨3,0⟩ : THop),(⟨1,0⟩ : THop),(⟨3,0⟩ : THop)]:List THop).map THop.c))]) (zy:=7) rfl rfl rfl rfl rfl rfl rfl (GX.m rfl (GX.done (WK.seq ?_)))
 refine WK.conv (st':=⟨[(1,.ptr 0 0),(2,.ro 2 (([(⟨3,0⟩ : THop),(⟨1,0⟩ : THop),(⟨3,0⟩ : THop)]:List THop).map THop.c))],[(0,.box [.ptr 1 0,.own 4 3 0 c8.sets.length,.mapr 5]),(1,.box [.own 2 6 0 c8.t.l.length,.own 3 1 0 c8.t.free.length,.int .i64 c8.t.root,.int .i64 c8.t.n]),(2,.row 6 101 (c8.t.l.map TNode.c)),(3,.row 1 3 (c8.t.free.map c_i64)),(4,.row 3 71 (c8.sets.map TGroup.c)),(5,.mq c8.atf.1 (c8.atf.2.map (encE (fun y=>.int .i64 y))))],6⟩) (Conv.keep [0,1,2,3,4,5] [6] [1,2] rfl rfl (qx rfl rfl (qx rfl (view_rowT rfl rfl) qy)) rfl rfl) ?_ (by simp)
 refine WK.regx mixed (GX.m rfl (GX.q (.agg [.int .u32 0,.int .i64 0]) (GX.m rfl ?_)))
 obtain ⟨c18,hc18,hR⟩:=zz hR; try dsimp only at hR
 refine GX.callx (r':=.int .i64 c18.1) (zx:=[(0,.box [.ptr 1 0,.own 8 3 0 c18.2.sets.length,.mapr 5]),(1,.box [.own 6 6 0 c18.2.t.l.length,.own 7 1 0 c18.2.t.free.length,.int .i64 c18.2.t.root,.int .i64 c18.2.t.n]),(5,.mq c18.2.atf.1 (c18.2.atf.2.map (encE (fun y=>.int .i64 y)))),(8,.row 3 71 (c18.2.sets.map TGroup.c)),(7,.row 1 3 (c18.2.t.free.map c_i64)),(6,.row 6 101 (c18.2.t.l.map TNode.c))]) (zy:=9) [0,1,2,3,4,5] [] rfl rfl rfl rfl rfl rfl (f16_ok c8 (⟨0,0⟩ : qk) ([(⟨3,0⟩ : THop),(⟨1,0⟩ : THop),(⟨3,0⟩ : THop)]:List THop) _ hc18) (.inl rfl) rfl rfl rfl (GX.m rfl (GX.q (.agg [.int .u32 2147483648,.int .i64 1]) (GX.m rfl ?_)))
 obtain ⟨c22,hc22,hR⟩:=zz hR; try dsimp only at hR
 refine GX.callx (r':=.int .i64 c22.1) (zx:=[(0,.box [.ptr 1 0,.own 11 3 0 c22.2.sets.length,.mapr 5]),(1,.box [.own 9 6 0 c22.2.t.l.length,.own 10 1 0 c22.2.t.free.length,.int .i64 c22.2.t.root,.int .i64 c22.2.t.n]),(5,.mq c22.2.atf.1 (c22.2.atf.2.map (encE (fun y=>.int .i64 y)))),(11,.row 3 71 (c22.2.sets.map TGroup.c)),(10,.row 1 3 (c22.2.t.free.map c_i64)),(9,.row 6 101 (c22.2.t.l.map TNode.c))]) (zy:=12) [0,1,6,7,8,5] [] rfl rfl rfl rfl rfl rfl (f16_ok c18.2 (⟨2147483648,1⟩ : qk) ([(⟨3,0⟩ : THop),(⟨1,0⟩ : THop),(⟨3,0⟩ : THop)]:List THop) _ hc22) (.inl rfl) rfl rfl rfl (GX.m rfl (GX.m rfl (GX.done (WK.sr mixed (GX.m rfl ?_)))))
 obtain ⟨c25,hc25,hR⟩:=zz hR; try dsimp only at hR
 refine GX.callx (r':=.tup [.agg (qk.c c25.1),.ro 2 (c25.2.1.map THop.c),.bool c25.2.2]) (zx:=[(0,.box [.ptr 1 0,.own 11 3 0 c22.2.sets.length,.mapr 5]),(1,.box [.own 9 6 0 c22.2.t.l.length,.own 10 1 0 c22.2.t.free.length,.int .i64 c22.2.t.root,.int .i64 c22.2.t.n]),(5,.mq c22.2.atf.1 (c22.2.atf.2.map (encE (fun y=>.int .i64 y)))),(11,.row 3 71 (c22.2.sets.map TGroup.c)),(10,.row 1 3 (c22.2.t.free.map c_i64)),(9,.row 6 101 (c22.2.t.l.map TNode.c))]) (zy:=12) [0,1,9,10,11,5] [] rfl rfl rfl rfl rfl rfl (f11_ok c22.2 2147483648 _ hc25) (.inl rfl) rfl rfl rfl (GX.m rfl (GX.q (.agg (qk.c c25.1)) (GX.q (.ro 2 (c25.2.1.map THop.c)) (GX.q (.bool c25.2.2) (GX.step (v':=.ptr 12 0) (zx:=[(0,.box [.ptr 1 0,.own 11 3 0 c22.2.sets.length,.mapr 5]),(1,.box [.own 9 6 0 c22.2.t.l.length,.own 10 1 0 c22.2.t.free.length,.int .i64 c22.2.t.root,.int .i64 c22.2.t.n]),(5,.mq c22.2.atf.1 (c22.2.atf.2.map (encE (fun y=>.int .i64 y)))),(11,.row 3 71 (c22.2.sets.map TGroup.c)),(10,.row 1 3 (c22.2.t.free.map c_i64)),(9,.row 6 101 (c22.2.t.l.map TNode.c)),(12,.box [.int .u32 0,.int .i64 0])]) (zy:=13) rfl rfl rfl rfl rfl rfl rfl (GX.step0 (zx:=[(0,.box [.ptr 1 0,.own 11 3 0 c22.2.sets.length,.mapr 5]),(1,.box [.own 9 6 0 c22.2.t.l.length,.own 10 1 0 c22.2.t.free.length,.int .i64 c22.2.t.root,.int .i64 c22.2.t.n]),(5,.mq c22.2.atf.1 (c22.2.atf.2.map (encE (fun y=>.int .i64 y)))),(11,.row 3 71 (c22.2.sets.map TGroup.c)),(10,.row 1 3 (c22.2.t.free.map c_i64)),(9,.row 6 101 (c22.2.t.l.map TNode.c)),(12,.box (qk.c c25.1))]) (zy:=13) rfl rfl rfl rfl rfl (GX.m rfl (GX.m rfl (GX.done (WK.sr mixed (GX.m rfl (GX.q (.bool (decide (c18.1 = 0))) (GX.m rfl ?_)))))))))))))
 rcases qq (decide (c18.1 = 0)) with hb5 | hb5
 ·rw [hb5]; first | replace hR:=wz hb5 hR | (try simp only [hb5,bb] at hR)
  refine GX.skip rfl rfl (GX.skip rfl rfl (GX.q (.bool false) (GX.m rfl (GX.skip rfl rfl (GX.skip rfl rfl (GX.skip rfl rfl (GX.q (.bool false) (GX.m rfl (GX.skip rfl rfl (GX.q (.bool false) (GX.m rfl (GX.skip rfl rfl (GX.skip rfl rfl (GX.skip rfl rfl ?_))))))))))))))
  refine GX.q (.bool false) (GX.m rfl (GX.skip rfl rfl (GX.skip rfl rfl (GX.skip rfl rfl (GX.q (.bool false) (GX.m rfl ?_))))))
  iterate 5 refine GX.skip rfl rfl ?_
  refine GX.q (.bool false) (GX.m rfl (GX.done (WK.ret ?_)))
  obtain rfl:=Option.some.inj hR
  exact RetQ.fr [] (.inr rfl) rfl rfl rfl rfl
 ·rw [hb5]; first | replace hR:=wy hb5 hR | (try simp only [hb5,bb] at hR)
  refine GX.m rfl ?_
  iterate 2 refine GX.q (.bool (decide (c22.1 = 0))) ?_
  refine GX.m rfl ?_
  rcases qq (decide (c22.1 = 0)) with hb6 | hb6
  ·rw [hb6]; first | replace hR:=wz hb6 hR | (try simp only [hb6,bb] at hR)
   refine GX.skip rfl rfl (GX.skip rfl rfl (GX.skip rfl rfl (GX.q (.bool false) (GX.m rfl (GX.skip rfl rfl (GX.q (.bool false) (GX.m rfl (GX.skip rfl rfl (GX.skip rfl rfl (GX.skip rfl rfl (GX.q (.bool false) (GX.m rfl (GX.skip rfl rfl (GX.skip rfl rfl (GX.skip rfl rfl ?_)))))))))))))))
   refine GX.q (.bool false) (GX.m rfl ?_)
   iterate 5 refine GX.skip rfl rfl ?_
   refine GX.q (.bool false) (GX.m rfl (GX.done (WK.ret ?_)))
   obtain rfl:=Option.some.inj hR
   exact RetQ.fr [] (.inr rfl) rfl rfl rfl rfl
  ·rw [hb6]; first | replace hR:=wy hb6 hR | (try simp only [hb6,bb] at hR)
   refine GX.m rfl ?_
   obtain ⟨c37,hc37,hR⟩:=zz hR; try dsimp only at hR
   try dsimp only at hR
   refine GX.callx (r':=.int .i64 c37) (zx:=[(0,.box [.ptr 1 0,.own 11 3 0 c22.2.sets.length,.mapr 5]),(1,.box [.own 9 6 0 c22.2.t.l.length,.own 10 1 0 c22.2.t.free.length,.int .i64 c22.2.t.root,.int .i64 c22.2.t.n]),(5,.mq c22.2.atf.1 (c22.2.atf.2.map (encE (fun y=>.int .i64 y)))),(11,.row 3 71 (c22.2.sets.map TGroup.c)),(10,.row 1 3 (c22.2.t.free.map c_i64)),(9,.row 6 101 (c22.2.t.l.map TNode.c)),(12,.box (qk.c c25.1))]) (zy:=13) [0,1,9,10,11,5] [] rfl rfl rfl rfl rfl rfl (f17_ok c22.2 _ hc37) (.inl rfl) rfl rfl rfl ?_
   iterate 2 refine GX.q (.bool (decide (c37 = 1))) ?_
   refine GX.m rfl ?_
   rcases qq (decide (c37 = 1)) with hb8 | hb8
   ·rw [hb8]; first | replace hR:=wz hb8 hR | (try simp only [hb8,bb] at hR)
    refine GX.skip rfl rfl (GX.q (.bool false) (GX.m rfl (GX.skip rfl rfl (GX.skip rfl rfl (GX.skip rfl rfl (GX.q (.bool false) (GX.m rfl (GX.skip rfl rfl (GX.skip rfl rfl (GX.skip rfl rfl (GX.q (.bool false) (GX.m rfl ?_))))))))))))
    iterate 5 refine GX.skip rfl rfl ?_
    refine GX.q (.bool false) (GX.m rfl (GX.done (WK.ret ?_)))
    obtain rfl:=Option.some.inj hR
    exact RetQ.fr [] (.inr rfl) rfl rfl rfl rfl
   ·rw [hb8]; first | replace hR:=wy hb8 hR | (try simp only [hb8,bb] at hR)
    refine GX.m rfl (GX.q (.bool c25.2.2) (GX.m rfl ?_))
    rcases qq (c25.2.2) with hb9 | hb9
    ·rw [hb9]; first | replace hR:=wz hb9 hR | (try simp only [hb9,bb] at hR)
     refine GX.skip rfl rfl (GX.skip rfl rfl (GX.skip rfl rfl (GX.q (.bool false) (GX.m rfl (GX.skip rfl rfl (GX.skip rfl rfl (GX.skip rfl rfl (GX.q (.bool false) (GX.m rfl ?_)))))))))
     iterate 5 refine GX.skip rfl rfl ?_
     refine GX.q (.bool false) (GX.m rfl (GX.done (WK.ret ?_)))
     obtain rfl:=Option.some.inj hR
     exact RetQ.fr [] (.inr rfl) rfl rfl rfl rfl
    ·rw [hb9]; first | replace hR:=wy hb9 hR | (try simp only [hb9,bb] at hR)
     refine GX.q (.ptr 12 1) (GX.q (.int .i64 c25.1.N) (GX.q (.bool (decide (c25.1.N = 1))) (GX.q (.bool (decide (c25.1.N = 1))) (GX.m rfl ?_))))
     rcases qq (decide (c25.1.N = 1)) with hb10 | hb10
     ·rw [hb10]; first | replace hR:=wz hb10 hR | (try simp only [hb10,bb] at hR)
      refine GX.skip rfl rfl (GX.skip rfl rfl (GX.skip rfl rfl (GX.q (.bool false) (GX.m rfl ?_))))
      iterate 5 refine GX.skip rfl rfl ?_
      refine GX.q (.bool false) (GX.m rfl (GX.done (WK.ret ?_)))
      obtain rfl:=Option.some.inj hR
      exact RetQ.fr [] (.inr rfl) rfl rfl rfl rfl
     ·rw [hb10]; first | replace hR:=wy hb10 hR | (try simp only [hb10,bb] at hR)
      refine GX.m rfl ?_
      refine GX.pure (v':=.int .i64 (c25.2.1.length:Int)) rfl rfl rfl rfl (zj _ _) ?_
      iterate 2 refine GX.q (.bool (decide ((c25.2.1.length:Int) = 2))) ?_
      refine GX.m rfl ?_
      rcases qq (decide ((c25.2.1.length:Int) = 2)) with hb11 | hb11
      ·rw [hb11]; first | replace hR:=wz hb11 hR | (try simp only [hb11,bb] at hR)
       iterate 5 refine GX.skip rfl rfl ?_
       refine GX.q (.bool false) (GX.m rfl (GX.done (WK.ret ?_)))
       obtain rfl:=Option.some.inj hR
       exact RetQ.fr [] (.inr rfl) rfl rfl rfl rfl
      ·rw [hb11]; first | replace hR:=wy hb11 hR | (try simp only [hb11,bb] at hR)
       refine GX.m rfl ?_
       obtain ⟨x911,hx911,hR⟩:=zz hR; try dsimp only at hR
       obtain ⟨hx9110,hx911j,hx911l,hx911⟩:=zk hx911
       refine GX.idxT (c:=THop.c) (x:=x911) rfl rfl rfl hx9110 hx911 (GX.q (.rptr (THop.c x911)) (GX.q (.int .i64 x911.Iface) (GX.q (.bool (decide (x911.Iface = 1))) (GX.q (.bool (decide (x911.Iface = 1))) (GX.m rfl (GX.done (WK.ret ?_)))))))
       obtain rfl:=Option.some.inj hR
       exact RetQ.fr [] (.inr rfl) rfl rfl rfl rfl
theorem f21_ok (a0:Int) (i1:Int) (R:Int) (hR:F21 a0 i1 = R):FnOk Tryz.prog 21 [.int .u32 a0,.int .i64 i1] [] 0 (.int .i64 R) [] 0:=by
 refine FnOk.wk i21 rfl rfl ?_
 unfold F21 at hR
 change WK _ _ _ [ac21] _ ⟨[(0,.int .u32 a0),(1,.int .i64 i1)],[],0⟩
 unfold ac21
 refine WK.sr mixed (GX.m rfl (GX.done (WK.seq (WK.sr mixed (GX.m rfl (GX.q (.bool (decide (i1 < 0))) (GX.m rfl ?_)))))))
 rcases qq (decide (i1 < 0)) with hb1 | hb1
 ·rw [hb1]; try simp only [hb1,bb] at hR
  refine GX.m rfl ?_
  iterate 2 refine GX.q (.bool (decide (31 < i1))) ?_
  refine GX.done ?_
  rcases qq (decide (31 < i1)) with hb2 | hb2
  ·rw [hb2]; try simp only [hb2,bb] at hR
   refine WK.condF rfl (WK.skip (WK.sr mixed (GX.m rfl (GX.m rfl (GX.q (.int .i64 (IntKind.i64.wrap (31 - i1))) (GX.q (.int .u64 (IntKind.u64.wrap (IntKind.i64.wrap (31 - i1)))) (GX.shr rfl rfl rfl (by exact wrap_u64_nonneg _) (GX.q (.int .u32 (bit_and .u32 (shr_ .u32 a0 (IntKind.u64.wrap (IntKind.i64.wrap (31 - i1)))) 1)) (GX.q (.int .i64 (IntKind.i64.wrap (bit_and .u32 (shr_ .u32 a0 (IntKind.u64.wrap (IntKind.i64.wrap (31 - i1)))) 1))) (GX.m rfl (GX.done (WK.ret ?_))))))))))))
   subst hR
   exact RetQ.fr [] (.inr rfl) rfl rfl rfl rfl
  ·rw [hb2]; try simp only [hb2,bb] at hR
   refine WK.condT rfl (WK.sr mixed (GX.m rfl (GX.done (WK.ret ?_))))
   subst hR
   exact RetQ.fr [] (.inr rfl) rfl rfl rfl rfl
 ·rw [hb1]; try simp only [hb1,bb] at hR
  refine GX.skip rfl rfl (GX.skip rfl rfl (GX.q (.bool true) (GX.done (WK.condT rfl (WK.sr mixed (GX.m rfl (GX.done (WK.ret ?_))))))))
  subst hR
  exact RetQ.fr [] (.inr rfl) rfl rfl rfl rfl
theorem f8_ok (p0:qk) (R:Bool) (hR:F8 p0 = R):FnOk Tryz.prog 8 [.agg (qk.c p0)] [] 0 (.bool R) [] 0:=by
 refine FnOk.wk i8 rfl rfl ?_
 unfold F8 at hR
 change WK _ _ _ [ac8] _ ⟨[(0,.agg (qk.c p0))],[],0⟩
 unfold ac8
 refine WK.sr mixed (GX.step (v':=.ptr 0 0) (zx:=[(0,.box (qk.c p0))]) (zy:=1) rfl rfl rfl rfl rfl rfl rfl (GX.m rfl (GX.done (WK.seq (WK.sr mixed (GX.q (.ptr 0 1) (GX.q (.int .i64 p0.N) (GX.q (.bool (decide (p0.N < 0))) (GX.m rfl ?_)))))))))
 rcases qq (decide (p0.N < 0)) with hb1 | hb1
 ·rw [hb1]; try simp only [hb1,bb] at hR
  refine GX.q (.ptr 0 1) (GX.q (.int .i64 p0.N) (GX.q (.bool (decide (32 < p0.N))) (GX.q (.bool (decide (32 < p0.N))) (GX.done ?_))))
  rcases qq (decide (32 < p0.N)) with hb2 | hb2
  ·rw [hb2]; try simp only [hb2,bb] at hR
   refine WK.condF rfl (WK.skip (WK.seq (WK.sr mixed (GX.q (.ptr 0 1) (GX.q (.int .i64 p0.N) (GX.m rfl (GX.done ?_)))))))
   generalize gi3:F8l1 p0 (fuelUp p0.N 32) p0.N = gh3 at hR
   refine WK.forK (fun k s=>∃ (i3:Int),fuelUp i3 32 ≤ k ∧ F8l1 p0 k i3 = gh3 ∧ s = ⟨[(1,.ptr 0 0),(3,.int .i64 i3)],[(0,.box (qk.c p0))],1⟩) (fuelUp p0.N 32) (by refine ⟨_,?_,p0.N,Nat.le_refl _,gi3,rfl⟩; exact Conv.keep [0] [] [1,3] rfl rfl (qx rfl rfl (qx rfl rfl qy)) rfl rfl) ?_
   rintro k3 _ ⟨i3,hfu3,gg3,rfl⟩ gb3 gd3 gk3 ga3 gc3 gf3
   refine WK.seq (WK.sr mixed (GX.m rfl (GX.q (.bool (decide (i3 < 32))) (GX.done ?_))))
   rcases qq (decide (i3 < 32)) with hb4 | hb4
   ·rw [hb4]
    unfold F8l1 at gg3; rw [hb4,cond_false] at gg3
    refine WK.condF rfl (WK.exit ?_)
    refine QF.exit (gc3 _ ?_)
    subst gg3
    try dsimp only [cond_true,cond_false] at hR
    refine WK.sr mixed (GX.m rfl (GX.done (WK.ret ?_)))
    subst hR
    exact RetQ.fr [] (.inr rfl) rfl rfl rfl rfl
   ·rw [hb4]
    obtain ⟨f3,rfl⟩:=fuel_pos hb4 hfu3
    unfold F8l1 at gg3; rw [hb4,cond_true] at gg3; dsimp only at gg3
    refine WK.condT rfl (WK.skip (WK.seq ?_))
    refine WK.blockK (fun _ hK5=>?_)
    refine WK.sr mixed (GX.q (.ptr 0 0) (GX.q (.int .u32 p0.A) (GX.m rfl ?_)))
    generalize hc21:F21 p0.A i3 = c21 at gg3
    try dsimp only at gg3
    refine GX.callp (r:=.int .i64 c21) rfl rfl rfl (f21_ok p0.A i3 _ hc21) rfl rfl (GX.q (.bool (decide (c21 = 1))) (GX.done ?_))
    rcases qq (decide (c21 = 1)) with hb6 | hb6
    ·rw [hb6]; try simp only [hb6,bb] at gg3
     refine WK.condF rfl (WK.skip ?_)
     refine WK.nil (QF.normal (hK5 _ ?_))
     refine WK.regx mixed (GX.m rfl (GX.q (.int .i64 (IntKind.i64.wrap (i3 + 1))) (GX.m rfl (GX.done ?_))))
     refine WK.nil (QF.normal ?_)
     refine ga3 _ f3 _ (Nat.lt_succ_self _) ?_ ⟨(IntKind.i64.wrap (i3 + 1)),fuel_up hb4 (by decide) hfu3,gg3,rfl⟩
     exact Conv.keep [0] [] [1,3] rfl rfl (qx rfl rfl (qx rfl rfl qy)) rfl rfl
    ·rw [hb6]; try simp only [hb6,bb] at gg3
     refine WK.condT rfl (WK.sr mixed (GX.m rfl (GX.done (WK.ret (QF.ret ?_)))))
     refine QF.ret (gf3 _ _ ?_)
     subst gg3
     subst hR
     exact RetQ.fr [] (.inr rfl) rfl rfl rfl rfl
  ·rw [hb2]; try simp only [hb2,bb] at hR
   refine WK.condT rfl (WK.sr mixed (GX.m rfl (GX.done (WK.ret ?_))))
   subst hR
   exact RetQ.fr [] (.inr rfl) rfl rfl rfl rfl
 ·rw [hb1]; try simp only [hb1,bb] at hR
  refine GX.skip rfl rfl (GX.skip rfl rfl (GX.skip rfl rfl (GX.q (.bool true) (GX.done (WK.condT rfl (WK.sr mixed (GX.m rfl (GX.done (WK.ret ?_)))))))))
  subst hR
  exact RetQ.fr [] (.inr rfl) rfl rfl rfl rfl
theorem f9_ok (p0:qk) (a1:Int) (R:Bool) (hR:F9 p0 a1 = R):FnOk Tryz.prog 9 [.agg (qk.c p0),.int .u32 a1] [] 0 (.bool R) [] 0:=by
 refine FnOk.wk i9 rfl rfl ?_
 unfold F9 at hR
 change WK _ _ _ [ac9] _ ⟨[(0,.agg (qk.c p0)),(1,.int .u32 a1)],[],0⟩
 unfold ac9
 refine WK.sr mixed (GX.step (v':=.ptr 0 0) (zx:=[(0,.box (qk.c p0))]) (zy:=1) rfl rfl rfl rfl rfl rfl rfl (GX.m rfl (GX.done (WK.seq (WK.sr mixed (GX.q (.agg (qk.c p0)) ?_))))))
 generalize hc7:F8 p0 = c7 at hR
 try dsimp only at hR
 refine GX.callp (r:=.bool c7) rfl rfl rfl (f8_ok p0 _ hc7) rfl rfl (GX.q (.bool (!c7)) (GX.done ?_))
 rcases qq (c7) with hb1 | hb1
 ·rw [hb1]; try simp only [hb1,bb] at hR
  refine WK.condT rfl (WK.sr mixed (GX.m rfl (GX.done (WK.ret ?_))))
  subst hR
  exact RetQ.fr [] (.inr rfl) rfl rfl rfl rfl
 ·rw [hb1]; try simp only [hb1,bb] at hR
  refine WK.condF rfl (WK.skip (WK.seq (WK.sr mixed (GX.m rfl (GX.done ?_)))))
  generalize gi2:F9l1 p0 a1 (fuelUp 0 p0.N) 0 = gh2 at hR
  refine WK.forK (fun k s=>∃ (i5:Int),fuelUp i5 p0.N ≤ k ∧ 0 ≤ i5 ∧ F9l1 p0 a1 k i5 = gh2 ∧ s = ⟨[(1,.int .u32 a1),(2,.ptr 0 0),(5,.int .i64 i5)],[(0,.box (qk.c p0))],1⟩) (fuelUp 0 p0.N) (by refine ⟨_,?_,0,Nat.le_refl _,(by omega),gi2,rfl⟩; exact Conv.keep [0] [] [1,2,5] rfl rfl (qx rfl rfl (qx rfl rfl (qx rfl rfl qy))) rfl rfl) ?_
  rintro k2 _ ⟨i5,hfu2,hinv2_c0,gg2,rfl⟩ gb2 gd2 gk2 ga2 gc2 gf2
  refine WK.seq (WK.sr mixed (GX.m rfl (GX.q (.ptr 0 1) (GX.q (.int .i64 p0.N) (GX.q (.bool (decide (i5 < p0.N))) (GX.done ?_))))))
  rcases qq (decide (i5 < p0.N)) with hb3 | hb3
  ·rw [hb3]
   unfold F9l1 at gg2; rw [hb3,cond_false] at gg2
   refine WK.condF rfl (WK.exit ?_)
   refine QF.exit (gc2 _ ?_)
   subst gg2
   try dsimp only [cond_true,cond_false] at hR
   refine WK.sr mixed (GX.m rfl (GX.done (WK.ret ?_)))
   subst hR
   exact RetQ.fr [] (.inr rfl) rfl rfl rfl rfl
  ·rw [hb3]
   obtain ⟨f2,rfl⟩:=fuel_pos hb3 hfu2
   unfold F9l1 at gg2; rw [hb3,cond_true] at gg2; dsimp only at gg2
   refine WK.condT rfl (WK.skip (WK.seq ?_))
   refine WK.blockK (fun _ hK4=>?_)
   refine WK.sr mixed (GX.q (.ptr 0 0) (GX.q (.int .u32 p0.A) (GX.m rfl ?_)))
   generalize hc18:F21 p0.A i5 = c18 at gg2
   try dsimp only at gg2
   refine GX.callp (r:=.int .i64 c18) rfl rfl rfl (f21_ok p0.A i5 _ hc18) rfl rfl (GX.m rfl (GX.m rfl ?_))
   generalize hc21:F21 a1 i5 = c21 at gg2
   try dsimp only at gg2
   refine GX.callp (r:=.int .i64 c21) rfl rfl rfl (f21_ok a1 i5 _ hc21) rfl rfl (GX.q (.bool (!decide (c18 = c21))) (GX.done ?_))
   rcases qq (decide (c18 = c21)) with hb5 | hb5
   ·rw [hb5]; try simp only [hb5,bb] at gg2
    refine WK.condT rfl (WK.sr mixed (GX.m rfl (GX.done (WK.ret (QF.ret ?_)))))
    refine QF.ret (gf2 _ _ ?_)
    subst gg2
    subst hR
    exact RetQ.fr [] (.inr rfl) rfl rfl rfl rfl
   ·rw [hb5]; try simp only [hb5,bb] at gg2
    refine WK.condF rfl (WK.skip ?_)
    refine WK.nil (QF.normal (hK4 _ ?_))
    refine WK.regx mixed (GX.m rfl (GX.q (.int .i64 (IntKind.i64.wrap (i5 + 1))) (GX.m rfl (GX.done ?_))))
    refine WK.nil (QF.normal ?_)
    refine ga2 _ f2 _ (Nat.lt_succ_self _) ?_ ⟨(IntKind.i64.wrap (i5 + 1)),fuel_up hb3 (by (have hlf:=may03_len (by assumption) (by assumption); omega)) hfu2,(by (have hlf:=may03_len (by assumption) (by assumption); (try simp only [decide_eq_true_eq,decide_eq_false_iff_not] at *); rw [wrap64_of (by omega) (by omega)]; omega)),gg2,rfl⟩
    exact Conv.keep [0] [] [1,2,5] rfl rfl (qx rfl rfl (qx rfl rfl (qx rfl rfl qy))) rfl rfl
theorem f50_ok (fuel:Nat) : ∀ (i0:Int) (a1:TTrie) (a2:qk) (a3:List TEntry) (R:(List TEntry)) (hR:F50 fuel i0 a1 a2 a3 = some R),FnOk Tryz.prog 50 [.int .i64 i0,.ptr 6 0,.ptr 1 0,.ptr 2 0,.ptr 7 0] [(0,.box [.own 3 6 0 a1.l.length,.own 4 1 0 a1.free.length,.int .i64 a1.root,.int .i64 a1.n]),(1,.box (qk.c a2)),(2,.box [.own 5 3 0 a3.length]),(3,.row 6 101 (a1.l.map TNode.c)),(4,.row 1 3 (a1.free.map c_i64)),(5,.row 3 54 (a3.map TEntry.c)),(6,.box [.ptr 0 0]),(7,.box [.fn 50 [] [.ptr 6 0,.ptr 1 0,.ptr 2 0,.ptr 7 0]])] 8 (.tup []) [(0,.box [.own 3 6 0 a1.l.length,.own 4 1 0 a1.free.length,.int .i64 a1.root,.int .i64 a1.n]),(1,.box (qk.c a2)),(2,.box [.own 8 3 0 R.length]),(3,.row 6 101 (a1.l.map TNode.c)),(4,.row 1 3 (a1.free.map c_i64)),(6,.box [.ptr 0 0]),(7,.box [.fn 50 [] [.ptr 6 0,.ptr 1 0,.ptr 2 0,.ptr 7 0]]),(8,.row 3 54 (R.map TEntry.c))] 9:=by
 induction fuel with
 | zero=>intro i0 a1 a2 a3 R hR; cases hR
 | succ fuel ih =>
  intro i0 a1 a2 a3 R hR
  refine FnOk.wk i50 rfl rfl ?_
  unfold F50 at hR
  try dsimp only at hR
  change WK _ _ _ [ac50] _ ⟨[(0,.int .i64 i0),(1,.ptr 6 0),(2,.ptr 1 0),(3,.ptr 2 0),(4,.ptr 7 0)],[(0,.box [.own 3 6 0 a1.l.length,.own 4 1 0 a1.free.length,.int .i64 a1.root,.int .i64 a1.n]),(1,.box (qk.c a2)),(2,.box [.own 5 3 0 a3.length]),(3,.row 6 101 (a1.l.map TNode.c)),(4,.row 1 3 (a1.free.map c_i64)),(5,.row 3 54 (a3.map TEntry.c)),(6,.box [.ptr 0 0]),(7,.box [.fn 50 [] [.ptr 6 0,.ptr 1 0,.ptr 2 0,.ptr 7 0]])],8⟩
  unfold ac50
  refine WK.mvB (id:=2) (j:=0) (zx:=[(0,.box [.own 3 6 0 a1.l.length,.own 4 1 0 a1.free.length,.int .i64 a1.root,.int .i64 a1.n]),(1,.box (qk.c a2)),(2,.box [.own 8 3 0 a3.length]),(3,.row 6 101 (a1.l.map TNode.c)),(4,.row 1 3 (a1.free.map c_i64)),(6,.box [.ptr 0 0]),(7,.box [.fn 50 [] [.ptr 6 0,.ptr 1 0,.ptr 2 0,.ptr 7 0]]),(8,.row 3 54 (a3.map TEntry.c))]) rfl rfl rfl (by simp) rfl (WK.seq (WK.sr mixed (GX.m rfl (GX.q (.bool (decide (i0 = (-1)))) (GX.done ?_)))))
  rcases qq (decide (i0 = (-1))) with hb1 | hb1
  ·rw [hb1]; first | replace hR:=wz hb1 hR | (try simp only [hb1,bb] at hR)
   refine WK.condF rfl (WK.skip (WK.sr mixed (GX.q (.ptr 0 0) (GX.q (.ptr 0 0) (GX.q (.ptr 0 0) (GX.q (.own 3 6 0 a1.l.length) (GX.m rfl ?_)))))))
   obtain ⟨x901,hx901,hR⟩:=zz hR; try dsimp only at hR
   obtain ⟨hx9010,hx901j,hx901l,hx901⟩:=zk hx901
   refine GX.pure (v':=.eptr 3 6 i0.toNat 0) rfl rfl rfl (core_idxoT (c:=TNode.c) (L:=a1.l) (j:=i0.toNat) rfl hx901j hx901l (by exact Nat.le_refl _)) rfl (GX.pure (v':=.agg (TNode.c x901)) rfl rfl rfl (core_loaT (c:=TNode.c) (L:=a1.l) (x:=x901) rfl hx901 rfl) rfl (GX.step (v':=.ptr 9 0) (zx:=[(0,.box [.own 3 6 0 a1.l.length,.own 4 1 0 a1.free.length,.int .i64 a1.root,.int .i64 a1.n]),(1,.box (qk.c a2)),(2,.box [.own 8 3 0 a3.length]),(3,.row 6 101 (a1.l.map TNode.c)),(4,.row 1 3 (a1.free.map c_i64)),(6,.box [.ptr 0 0]),(7,.box [.fn 50 [] [.ptr 6 0,.ptr 1 0,.ptr 2 0,.ptr 7 0]]),(8,.row 3 54 (a3.map TEntry.c)),(9,.box [.int .u32 0,.int .i64 0,.int .i64 0,.bool false,.int .i64 0,.int .i64 0])]) (zy:=10) rfl rfl rfl rfl rfl rfl rfl (GX.step0 (zx:=[(0,.box [.own 3 6 0 a1.l.length,.own 4 1 0 a1.free.length,.int .i64 a1.root,.int .i64 a1.n]),(1,.box (qk.c a2)),(2,.box [.own 8 3 0 a3.length]),(3,.row 6 101 (a1.l.map TNode.c)),(4,.row 1 3 (a1.free.map c_i64)),(6,.box [.ptr 0 0]),(7,.box [.fn 50 [] [.ptr 6 0,.ptr 1 0,.ptr 2 0,.ptr 7 0]]),(8,.row 3 54 (a3.map TEntry.c)),(9,.box (TNode.c x901))]) (zy:=10) rfl rfl rfl rfl rfl (GX.done (WK.seq (WK.sr mixed (GX.q (.ptr 9 3) (GX.q (.bool x901.isf) (GX.m rfl ?_)))))))))
   rcases qq (x901.isf) with hb3 | hb3
   ·rw [hb3]; first | replace hR:=wz hb3 hR | (try simp only [hb3,bb] at hR)
    iterate 4 refine GX.skip rfl rfl ?_
    refine GX.q (.bool false) (GX.done (WK.condF rfl (WK.skip (WK.sr mixed (GX.q (.agg (qk.c a2)) (GX.q (.ptr 9 0) (GX.q (.agg [.int .u32 x901.p.A,.int .i64 x901.p.N]) ?_)))))))
    generalize hc35:F51 a2 x901.p = c35 at hR
    try dsimp only at hR
    refine GX.callp (r:=.bool c35) rfl rfl rfl (f51_ok a2 x901.p _ hc35) rfl rfl (GX.m rfl ?_)
    rcases qq (c35) with hb4 | hb4
    ·rw [hb4]; first | replace hR:=wz hb4 hR | (try simp only [hb4,bb] at hR)
     refine GX.q (.ptr 9 0) (GX.q (.agg [.int .u32 x901.p.A,.int .i64 x901.p.N]) (GX.q (.agg (qk.c a2)) ?_))
     generalize hc40:F51 x901.p a2 = c40 at hR
     try dsimp only at hR
     refine GX.callp (r:=.bool c40) rfl rfl rfl (f51_ok x901.p a2 _ hc40) rfl rfl (GX.q (.bool c40) (GX.done ?_))
     rcases qq (c40) with hb5 | hb5
     ·rw [hb5]; first | replace hR:=wz hb5 hR | (try simp only [hb5,bb] at hR)
      refine WK.condF rfl (WK.skip (WK.nil ?_))
      obtain rfl:=Option.some.inj hR
      exact RetQ.ret [0,1,2,3,4,5,6,7,8] [] (.inl rfl) rfl rfl rfl rfl rfl .refl rfl
     ·rw [hb5]; first | replace hR:=wy hb5 hR | (try simp only [hb5,bb] at hR)
      refine WK.condT rfl (WK.sr mixed (GX.q (.fn 50 [] [.ptr 6 0,.ptr 1 0,.ptr 2 0,.ptr 7 0]) (GX.q (.ptr 9 4) (GX.q (.ptr 9 4) (GX.q (.int .i64 x901.kids.e0) ?_)))))
      obtain ⟨c46,hc46,hR⟩:=zz hR; try dsimp only at hR
      try dsimp only at hR
      refine GX.callvx (r':=.tup []) (zx:=[(0,.box [.own 3 6 0 a1.l.length,.own 4 1 0 a1.free.length,.int .i64 a1.root,.int .i64 a1.n]),(1,.box (qk.c a2)),(2,.box [.own 10 3 0 c46.length]),(3,.row 6 101 (a1.l.map TNode.c)),(4,.row 1 3 (a1.free.map c_i64)),(6,.box [.ptr 0 0]),(7,.box [.fn 50 [] [.ptr 6 0,.ptr 1 0,.ptr 2 0,.ptr 7 0]]),(9,.box (TNode.c x901)),(10,.row 3 54 (c46.map TEntry.c))]) (zy:=11) [0,1,2,3,4,8,6,7] [] rfl rfl rfl rfl rfl rfl (ih x901.kids.e0 a1 a2 a3 _ hc46) (.inl rfl) rfl rfl rfl (GX.done (WK.regx mixed (GX.q (.fn 50 [] [.ptr 6 0,.ptr 1 0,.ptr 2 0,.ptr 7 0]) (GX.q (.ptr 9 4) (GX.q (.ptr 9 5) (GX.q (.int .i64 x901.kids.e1) ?_))))))
      obtain ⟨c51,hc51,hR⟩:=zz hR; try dsimp only at hR
      try dsimp only at hR
      refine GX.callvx (r':=.tup []) (zx:=[(0,.box [.own 3 6 0 a1.l.length,.own 4 1 0 a1.free.length,.int .i64 a1.root,.int .i64 a1.n]),(1,.box (qk.c a2)),(2,.box [.own 11 3 0 c51.length]),(3,.row 6 101 (a1.l.map TNode.c)),(4,.row 1 3 (a1.free.map c_i64)),(6,.box [.ptr 0 0]),(7,.box [.fn 50 [] [.ptr 6 0,.ptr 1 0,.ptr 2 0,.ptr 7 0]]),(9,.box (TNode.c x901)),(11,.row 3 54 (c51.map TEntry.c))]) (zy:=12) [0,1,2,3,4,10,6,7] [] rfl rfl rfl rfl rfl rfl (ih x901.kids.e1 a1 a2 c46 _ hc51) (.inl rfl) rfl rfl rfl (GX.done (WK.nil ?_))
      obtain rfl:=Option.some.inj hR
      exact RetQ.ret [0,1,2,3,4,5,6,7,11] [] (.inl rfl) rfl rfl rfl rfl rfl .refl rfl
    ·rw [hb4]; first | replace hR:=wy hb4 hR | (try simp only [hb4,bb] at hR)
     iterate 4 refine GX.skip rfl rfl ?_
     refine GX.q (.bool true) (GX.done (WK.condT rfl (WK.sr mixed (GX.q (.fn 50 [] [.ptr 6 0,.ptr 1 0,.ptr 2 0,.ptr 7 0]) (GX.q (.ptr 9 4) (GX.q (.ptr 9 4) (GX.q (.int .i64 x901.kids.e0) ?_)))))))
     obtain ⟨c46,hc46,hR⟩:=zz hR; try dsimp only at hR
     try dsimp only at hR
     refine GX.callvx (r':=.tup []) (zx:=[(0,.box [.own 3 6 0 a1.l.length,.own 4 1 0 a1.free.length,.int .i64 a1.root,.int .i64 a1.n]),(1,.box (qk.c a2)),(2,.box [.own 10 3 0 c46.length]),(3,.row 6 101 (a1.l.map TNode.c)),(4,.row 1 3 (a1.free.map c_i64)),(6,.box [.ptr 0 0]),(7,.box [.fn 50 [] [.ptr 6 0,.ptr 1 0,.ptr 2 0,.ptr 7 0]]),(9,.box (TNode.c x901)),(10,.row 3 54 (c46.map TEntry.c))]) (zy:=11) [0,1,2,3,4,8,6,7] [] rfl rfl rfl rfl rfl rfl (ih x901.kids.e0 a1 a2 a3 _ hc46) (.inl rfl) rfl rfl rfl (GX.done (WK.regx mixed (GX.q (.fn 50 [] [.ptr 6 0,.ptr 1 0,.ptr 2 0,.ptr 7 0]) (GX.q (.ptr 9 4) (GX.q (.ptr 9 5) (GX.q (.int .i64 x901.kids.e1) ?_))))))
     obtain ⟨c51,hc51,hR⟩:=zz hR; try dsimp only at hR
     try dsimp only at hR
     refine GX.callvx (r':=.tup []) (zx:=[(0,.box [.own 3 6 0 a1.l.length,.own 4 1 0 a1.free.length,.int .i64 a1.root,.int .i64 a1.n]),(1,.box (qk.c a2)),(2,.box [.own 11 3 0 c51.length]),(3,.row 6 101 (a1.l.map TNode.c)),(4,.row 1 3 (a1.free.map c_i64)),(6,.box [.ptr 0 0]),(7,.box [.fn 50 [] [.ptr 6 0,.ptr 1 0,.ptr 2 0,.ptr 7 0]]),(9,.box (TNode.c x901)),(11,.row 3 54 (c51.map TEntry.c))]) (zy:=12) [0,1,2,3,4,10,6,7] [] rfl rfl rfl rfl rfl rfl (ih x901.kids.e1 a1 a2 c46 _ hc51) (.inl rfl) rfl rfl rfl (GX.done (WK.nil ?_))
     obtain rfl:=Option.some.inj hR
     exact RetQ.ret [0,1,2,3,4,5,6,7,11] [] (.inl rfl) rfl rfl rfl rfl rfl .refl rfl
   ·rw [hb3]; first | replace hR:=wy hb3 hR | (try simp only [hb3,bb] at hR)
    refine GX.q (.agg (qk.c a2)) (GX.q (.ptr 9 0) (GX.q (.agg [.int .u32 x901.p.A,.int .i64 x901.p.N]) ?_))
    generalize hc22:F51 a2 x901.p = c22 at hR
    try dsimp only at hR
    refine GX.callp (r:=.bool c22) rfl rfl rfl (f51_ok a2 x901.p _ hc22) rfl rfl (GX.q (.bool c22) (GX.done ?_))
    rcases qq (c22) with hb10 | hb10
    ·rw [hb10]; first | replace hR:=wz hb10 hR | (try simp only [hb10,bb] at hR)
     refine WK.condF rfl (WK.skip (WK.sr mixed (GX.q (.agg (qk.c a2)) (GX.q (.ptr 9 0) (GX.q (.agg [.int .u32 x901.p.A,.int .i64 x901.p.N]) (GX.callp (r:=.bool c22) rfl rfl rfl (f51_ok a2 x901.p _ hc22) rfl rfl (GX.pure (v':=.bool false) rfl rfl rfl rfl (congrArg PVal.bool hb10) (GX.q (.ptr 9 0) (GX.q (.agg [.int .u32 x901.p.A,.int .i64 x901.p.N]) (GX.q (.agg (qk.c a2)) ?_))))))))))
     generalize hc40:F51 x901.p a2 = c40 at hR
     try dsimp only at hR
     refine GX.callp (r:=.bool c40) rfl rfl rfl (f51_ok x901.p a2 _ hc40) rfl rfl (GX.q (.bool c40) (GX.done ?_))
     rcases qq (c40) with hb11 | hb11
     ·rw [hb11]; first | replace hR:=wz hb11 hR | (try simp only [hb11,bb] at hR)
      refine WK.condF rfl (WK.skip (WK.nil ?_))
      obtain rfl:=Option.some.inj hR
      exact RetQ.ret [0,1,2,3,4,5,6,7,8] [] (.inl rfl) rfl rfl rfl rfl rfl .refl rfl
     ·rw [hb11]; first | replace hR:=wy hb11 hR | (try simp only [hb11,bb] at hR)
      refine WK.condT rfl (WK.sr mixed (GX.q (.fn 50 [] [.ptr 6 0,.ptr 1 0,.ptr 2 0,.ptr 7 0]) (GX.q (.ptr 9 4) (GX.q (.ptr 9 4) (GX.q (.int .i64 x901.kids.e0) ?_)))))
      obtain ⟨c46,hc46,hR⟩:=zz hR; try dsimp only at hR
      try dsimp only at hR
      refine GX.callvx (r':=.tup []) (zx:=[(0,.box [.own 3 6 0 a1.l.length,.own 4 1 0 a1.free.length,.int .i64 a1.root,.int .i64 a1.n]),(1,.box (qk.c a2)),(2,.box [.own 10 3 0 c46.length]),(3,.row 6 101 (a1.l.map TNode.c)),(4,.row 1 3 (a1.free.map c_i64)),(6,.box [.ptr 0 0]),(7,.box [.fn 50 [] [.ptr 6 0,.ptr 1 0,.ptr 2 0,.ptr 7 0]]),(9,.box (TNode.c x901)),(10,.row 3 54 (c46.map TEntry.c))]) (zy:=11) [0,1,2,3,4,8,6,7] [] rfl rfl rfl rfl rfl rfl (ih x901.kids.e0 a1 a2 a3 _ hc46) (.inl rfl) rfl rfl rfl (GX.done (WK.regx mixed (GX.q (.fn 50 [] [.ptr 6 0,.ptr 1 0,.ptr 2 0,.ptr 7 0]) (GX.q (.ptr 9 4) (GX.q (.ptr 9 5) (GX.q (.int .i64 x901.kids.e1) ?_))))))
      obtain ⟨c51,hc51,hR⟩:=zz hR; try dsimp only at hR
      try dsimp only at hR
      refine GX.callvx (r':=.tup []) (zx:=[(0,.box [.own 3 6 0 a1.l.length,.own 4 1 0 a1.free.length,.int .i64 a1.root,.int .i64 a1.n]),(1,.box (qk.c a2)),(2,.box [.own 11 3 0 c51.length]),(3,.row 6 101 (a1.l.map TNode.c)),(4,.row 1 3 (a1.free.map c_i64)),(6,.box [.ptr 0 0]),(7,.box [.fn 50 [] [.ptr 6 0,.ptr 1 0,.ptr 2 0,.ptr 7 0]]),(9,.box (TNode.c x901)),(11,.row 3 54 (c51.map TEntry.c))]) (zy:=12) [0,1,2,3,4,10,6,7] [] rfl rfl rfl rfl rfl rfl (ih x901.kids.e1 a1 a2 c46 _ hc51) (.inl rfl) rfl rfl rfl (GX.done (WK.nil ?_))
      obtain rfl:=Option.some.inj hR
      exact RetQ.ret [0,1,2,3,4,5,6,7,11] [] (.inl rfl) rfl rfl rfl rfl rfl .refl rfl
    ·rw [hb10]; first | replace hR:=wy hb10 hR | (try simp only [hb10,bb] at hR)
     refine WK.condT rfl (WK.regx mixed (GX.q (.own 8 3 0 a3.length) (GX.q (.ptr 9 0) (GX.q (.agg [.int .u32 x901.p.A,.int .i64 x901.p.N]) (GX.q (.ptr 9 2) (GX.q (.int .i64 x901.v) (GX.q (.agg [.int .u32 x901.p.A,.int .i64 x901.p.N,.int .i64 x901.v]) (GX.step (v':=.own 10 3 0 (([(⟨x901.p,x901.v⟩ : TEntry)]:List TEntry)).length) (zx:=[(0,.box [.own 3 6 0 a1.l.length,.own 4 1 0 a1.free.length,.int .i64 a1.root,.int .i64 a1.n]),(1,.box (qk.c a2)),(2,.box [.own 8 3 0 a3.length]),(3,.row 6 101 (a1.l.map TNode.c)),(4,.row 1 3 (a1.free.map c_i64)),(6,.box [.ptr 0 0]),(7,.box [.fn 50 [] [.ptr 6 0,.ptr 1 0,.ptr 2 0,.ptr 7 0]]),(8,.row 3 54 (a3.map TEntry.c)),(9,.box (TNode.c x901)),(10,.row 3 54 (([(⟨x901.p,x901.v⟩ : TEntry)]:List TEntry).map TEntry.c))]) (zy:=11) rfl rfl rfl rfl rfl rfl rfl ?_))))))))
     rcases qq (decide (a3.length < 1099511627776)) with hg14 | hg14
     ·replace hR:=wz hg14 hR
      cases hR
     replace hR:=wy hg14 hR; try dsimp only at hR
     have hg14_:=of_decide_eq_true hg14
     refine GX.appT (c:=TEntry.c) (L:=a3) (X:=([(⟨x901.p,x901.v⟩ : TEntry)]:List TEntry)) (zx:=[(0,.box [.own 3 6 0 a1.l.length,.own 4 1 0 a1.free.length,.int .i64 a1.root,.int .i64 a1.n]),(1,.box (qk.c a2)),(2,.box [.own 8 3 0 a3.length]),(3,.row 6 101 (a1.l.map TNode.c)),(4,.row 1 3 (a1.free.map c_i64)),(6,.box [.ptr 0 0]),(7,.box [.fn 50 [] [.ptr 6 0,.ptr 1 0,.ptr 2 0,.ptr 7 0]]),(9,.box (TNode.c x901)),(10,.row 3 54 (([(⟨x901.p,x901.v⟩ : TEntry)]:List TEntry).map TEntry.c)),(11,.row 3 54 ((a3 ++ ([(⟨x901.p,x901.v⟩ : TEntry)]:List TEntry)).map TEntry.c))]) (zy:=12) rfl rfl rfl rfl (elems_own rfl) (by ((try simp only [List.length_append,List.length_cons,List.length_nil,List.length_map,decide_eq_true_eq,decide_eq_false_iff_not] at *) <;> omega)) (by ((try simp only [List.length_append,List.length_cons,List.length_nil,List.length_map,decide_eq_true_eq,decide_eq_false_iff_not] at *) <;> omega)) rfl rfl rfl rfl (GX.step0 (zx:=[(0,.box [.own 3 6 0 a1.l.length,.own 4 1 0 a1.free.length,.int .i64 a1.root,.int .i64 a1.n]),(1,.box (qk.c a2)),(2,.box [.own 11 3 0 (a3 ++ ([(⟨x901.p,x901.v⟩ : TEntry)]:List TEntry)).length]),(3,.row 6 101 (a1.l.map TNode.c)),(4,.row 1 3 (a1.free.map c_i64)),(6,.box [.ptr 0 0]),(7,.box [.fn 50 [] [.ptr 6 0,.ptr 1 0,.ptr 2 0,.ptr 7 0]]),(9,.box (TNode.c x901)),(10,.row 3 54 (([(⟨x901.p,x901.v⟩ : TEntry)]:List TEntry).map TEntry.c)),(11,.row 3 54 ((a3 ++ ([(⟨x901.p,x901.v⟩ : TEntry)]:List TEntry)).map TEntry.c))]) (zy:=12) rfl rfl rfl rfl rfl (GX.done (WK.sr mixed (GX.q (.agg (qk.c a2)) (GX.q (.ptr 9 0) (GX.q (.agg [.int .u32 x901.p.A,.int .i64 x901.p.N]) (GX.callp (r:=.bool c22) rfl rfl rfl (f51_ok a2 x901.p _ hc22) rfl rfl (GX.pure (v':=.bool true) rfl rfl rfl rfl (congrArg PVal.bool hb10) ?_))))))))
     iterate 4 refine GX.skip rfl rfl ?_
     refine GX.q (.bool true) (GX.done (WK.condT rfl (WK.sr mixed (GX.q (.fn 50 [] [.ptr 6 0,.ptr 1 0,.ptr 2 0,.ptr 7 0]) (GX.q (.ptr 9 4) (GX.q (.ptr 9 4) (GX.q (.int .i64 x901.kids.e0) ?_)))))))
     obtain ⟨c46,hc46,hR⟩:=zz hR; try dsimp only at hR
     try dsimp only at hR
     refine GX.callvx (r':=.tup []) (zx:=[(0,.box [.own 3 6 0 a1.l.length,.own 4 1 0 a1.free.length,.int .i64 a1.root,.int .i64 a1.n]),(1,.box (qk.c a2)),(2,.box [.own 12 3 0 c46.length]),(3,.row 6 101 (a1.l.map TNode.c)),(4,.row 1 3 (a1.free.map c_i64)),(6,.box [.ptr 0 0]),(7,.box [.fn 50 [] [.ptr 6 0,.ptr 1 0,.ptr 2 0,.ptr 7 0]]),(9,.box (TNode.c x901)),(10,.row 3 54 (([(⟨x901.p,x901.v⟩ : TEntry)]:List TEntry).map TEntry.c)),(12,.row 3 54 (c46.map TEntry.c))]) (zy:=13) [0,1,2,3,4,11,6,7] [] rfl rfl rfl rfl rfl rfl (ih x901.kids.e0 a1 a2 (a3 ++ ([(⟨x901.p,x901.v⟩ : TEntry)]:List TEntry)) _ hc46) (.inl rfl) rfl rfl rfl (GX.done (WK.regx mixed (GX.q (.fn 50 [] [.ptr 6 0,.ptr 1 0,.ptr 2 0,.ptr 7 0]) (GX.q (.ptr 9 4) (GX.q (.ptr 9 5) (GX.q (.int .i64 x901.kids.e1) ?_))))))
     obtain ⟨c51,hc51,hR⟩:=zz hR; try dsimp only at hR
     try dsimp only at hR
     refine GX.callvx (r':=.tup []) (zx:=[(0,.box [.own 3 6 0 a1.l.length,.own 4 1 0 a1.free.length,.int .i64 a1.root,.int .i64 a1.n]),(1,.box (qk.c a2)),(2,.box [.own 13 3 0 c51.length]),(3,.row 6 101 (a1.l.map TNode.c)),(4,.row 1 3 (a1.free.map c_i64)),(6,.box [.ptr 0 0]),(7,.box [.fn 50 [] [.ptr 6 0,.ptr 1 0,.ptr 2 0,.ptr 7 0]]),(9,.box (TNode.c x901)),(10,.row 3 54 (([(⟨x901.p,x901.v⟩ : TEntry)]:List TEntry).map TEntry.c)),(13,.row 3 54 (c51.map TEntry.c))]) (zy:=14) [0,1,2,3,4,12,6,7] [] rfl rfl rfl rfl rfl rfl (ih x901.kids.e1 a1 a2 c46 _ hc51) (.inl rfl) rfl rfl rfl (GX.done (WK.nil ?_))
     obtain rfl:=Option.some.inj hR
     exact RetQ.ret [0,1,2,3,4,5,6,7,13] [] (.inl rfl) rfl rfl rfl rfl rfl .refl rfl
  ·rw [hb1]; first | replace hR:=wy hb1 hR | (try simp only [hb1,bb] at hR)
   refine WK.condT rfl (WK.ret ?_)
   obtain rfl:=Option.some.inj hR
   exact RetQ.ret [0,1,2,3,4,5,6,7,8] [] (.inr rfl) rfl rfl rfl rfl rfl .refl rfl
theorem f34_ok (t0:TTrie) (p1:qk) (R:(List TEntry)) (hR:F34 t0 p1 = some R):FnOk Tryz.prog 34 [.ptr 0 0,.agg (qk.c p1)] [(0,.box [.own 1 6 0 t0.l.length,.own 2 1 0 t0.free.length,.int .i64 t0.root,.int .i64 t0.n]),(1,.row 6 101 (t0.l.map TNode.c)),(2,.row 1 3 (t0.free.map c_i64))] 3 (.ro 3 (R.map TEntry.c)) [(0,.box [.own 1 6 0 t0.l.length,.own 2 1 0 t0.free.length,.int .i64 t0.root,.int .i64 t0.n]),(1,.row 6 101 (t0.l.map TNode.c)),(2,.row 1 3 (t0.free.map c_i64))] 3:=by
 refine FnOk.wk i34 rfl rfl ?_
 unfold F34 at hR
 try dsimp only at hR
 change WK _ _ _ [ac34] _ ⟨[(0,.ptr 0 0),(1,.agg (qk.c p1))],[(0,.box [.own 1 6 0 t0.l.length,.own 2 1 0 t0.free.length,.int .i64 t0.root,.int .i64 t0.n]),(1,.row 6 101 (t0.l.map TNode.c)),(2,.row 1 3 (t0.free.map c_i64))],3⟩
 unfold ac34
 refine WK.sr mixed (GX.step (v':=.ptr 3 0) (zx:=[(0,.box [.own 1 6 0 t0.l.length,.own 2 1 0 t0.free.length,.int .i64 t0.root,.int .i64 t0.n]),(1,.row 6 101 (t0.l.map TNode.c)),(2,.row 1 3 (t0.free.map c_i64)),(3,.box [.ptr 0 0])]) (zy:=4) rfl rfl rfl rfl rfl rfl rfl (GX.step (v':=.ptr 4 0) (zx:=[(0,.box [.own 1 6 0 t0.l.length,.own 2 1 0 t0.free.length,.int .i64 t0.root,.int .i64 t0.n]),(1,.row 6 101 (t0.l.map TNode.c)),(2,.row 1 3 (t0.free.map c_i64)),(3,.box [.ptr 0 0]),(4,.box (qk.c p1))]) (zy:=5) rfl rfl rfl rfl rfl rfl rfl (GX.m rfl (GX.done (WK.seq (WK.sr mixed (GX.q (.ptr 0 0) (GX.q (.bool false) (GX.m rfl (GX.q (.agg (qk.c p1)) ?_))))))))))
 generalize hc11:F28 p1 = c11 at hR
 try dsimp only at hR
 refine GX.callp (r:=.bool c11) rfl rfl rfl (f28_ok p1 _ hc11) rfl rfl (GX.q (.bool (!c11)) (GX.q (.bool (!c11)) (GX.done ?_)))
 rcases qq (c11) with hb1 | hb1
 ·rw [hb1]; first | replace hR:=wz hb1 hR | (try simp only [hb1,bb] at hR)
  refine WK.condT rfl (WK.sr mixed (GX.m rfl (GX.done (WK.ret ?_))))
  obtain rfl:=Option.some.inj hR
  exact RetQ.ret [0,1,2] [] (.inr rfl) rfl rfl rfl rfl rfl .nil rfl
 ·rw [hb1]; first | replace hR:=wy hb1 hR | (try simp only [hb1,bb] at hR)
  refine WK.condF rfl (WK.skip (WK.sr mixed (GX.step (v':=.ptr 5 0) (zx:=[(0,.box [.own 1 6 0 t0.l.length,.own 2 1 0 t0.free.length,.int .i64 t0.root,.int .i64 t0.n]),(1,.row 6 101 (t0.l.map TNode.c)),(2,.row 1 3 (t0.free.map c_i64)),(3,.box [.ptr 0 0]),(4,.box (qk.c p1)),(5,.box [.nils])]) (zy:=6) rfl rfl rfl rfl rfl rfl rfl (GX.done (WK.sr mixed (GX.step (v':=.ptr 6 0) (zx:=[(0,.box [.own 1 6 0 t0.l.length,.own 2 1 0 t0.free.length,.int .i64 t0.root,.int .i64 t0.n]),(1,.row 6 101 (t0.l.map TNode.c)),(2,.row 1 3 (t0.free.map c_i64)),(3,.box [.ptr 0 0]),(4,.box (qk.c p1)),(5,.box [.nils]),(6,.box [.nilf])]) (zy:=7) rfl rfl rfl rfl rfl rfl rfl (GX.done (WK.sr mixed (GX.q (.fn 50 [] [.ptr 3 0,.ptr 4 0,.ptr 5 0,.ptr 6 0]) (GX.step0 (zx:=[(0,.box [.own 1 6 0 t0.l.length,.own 2 1 0 t0.free.length,.int .i64 t0.root,.int .i64 t0.n]),(1,.row 6 101 (t0.l.map TNode.c)),(2,.row 1 3 (t0.free.map c_i64)),(3,.box [.ptr 0 0]),(4,.box (qk.c p1)),(5,.box [.nils]),(6,.box [.fn 50 [] [.ptr 3 0,.ptr 4 0,.ptr 5 0,.ptr 6 0]])]) (zy:=7) rfl rfl rfl rfl rfl (GX.done (WK.seq (WK.adoptB (id:=5) (j:=0) (sz:=3) (ty:=54) (zx:=[(0,.box [.own 1 6 0 t0.l.length,.own 2 1 0 t0.free.length,.int .i64 t0.root,.int .i64 t0.n]),(1,.row 6 101 (t0.l.map TNode.c)),(2,.row 1 3 (t0.free.map c_i64)),(3,.box [.ptr 0 0]),(4,.box (qk.c p1)),(5,.box [.own 7 3 0 (([]:List TEntry)).length]),(6,.box [.fn 50 [] [.ptr 3 0,.ptr 4 0,.ptr 5 0,.ptr 6 0]]),(7,.row 3 54 (([]:List TEntry).map TEntry.c))]) rfl rfl (by decide) (by simp) rfl ?_)))))))))))))
  refine WK.drawn mixed (RD.q (.fn 50 [] [.ptr 3 0,.ptr 4 0,.ptr 5 0,.ptr 6 0]) (RD.q (.ptr 0 0) (RD.q (.ptr 0 0) (RD.q (.ptr 0 2) (RD.q (.int .i64 t0.root) ?_)))))
  obtain ⟨c20,hc20,hR⟩:=zz hR; try dsimp only at hR
  try dsimp only at hR
  refine RD.callvx (r':=.tup []) (zx:=[(0,.box [.own 1 6 0 t0.l.length,.own 2 1 0 t0.free.length,.int .i64 t0.root,.int .i64 t0.n]),(1,.row 6 101 (t0.l.map TNode.c)),(2,.row 1 3 (t0.free.map c_i64)),(3,.box [.ptr 0 0]),(4,.box (qk.c p1)),(5,.box [.own 8 3 0 c20.length]),(6,.box [.fn 50 [] [.ptr 3 0,.ptr 4 0,.ptr 5 0,.ptr 6 0]]),(8,.row 3 54 (c20.map TEntry.c))]) (zy:=9) [0,4,5,1,2,7,3,6] [] rfl rfl rfl rfl rfl rfl (f50_ok 100 t0.root t0 p1 ([]:List TEntry) _ hc20) (.inl rfl) rfl rfl rfl (RD.done rfl (WK.sr mixed (GX.q (.own 8 3 0 c20.length) (GX.m rfl (GX.done (WK.ret ?_))))))
  obtain rfl:=Option.some.inj hR
  exact RetQ.ret [0,1,2] [8] (.inr rfl) rfl rfl rfl rfl (qz (view_rowT rfl rfl) qw) .refl rfl
theorem f22_ok (t0:TTrie) (R:(List TEntry)) (hR:F22 t0 = some R):FnOk Tryz.prog 22 [.ptr 0 0] [(0,.box [.own 1 6 0 t0.l.length,.own 2 1 0 t0.free.length,.int .i64 t0.root,.int .i64 t0.n]),(1,.row 6 101 (t0.l.map TNode.c)),(2,.row 1 3 (t0.free.map c_i64))] 3 (.ro 3 (R.map TEntry.c)) [(0,.box [.own 1 6 0 t0.l.length,.own 2 1 0 t0.free.length,.int .i64 t0.root,.int .i64 t0.n]),(1,.row 6 101 (t0.l.map TNode.c)),(2,.row 1 3 (t0.free.map c_i64))] 3:=by
 refine FnOk.wk i22 rfl rfl ?_
 unfold F22 at hR
 try dsimp only at hR
 change WK _ _ _ [ac22] _ ⟨[(0,.ptr 0 0)],[(0,.box [.own 1 6 0 t0.l.length,.own 2 1 0 t0.free.length,.int .i64 t0.root,.int .i64 t0.n]),(1,.row 6 101 (t0.l.map TNode.c)),(2,.row 1 3 (t0.free.map c_i64))],3⟩
 unfold ac22
 refine WK.sr mixed (GX.m rfl (GX.done (WK.sr mixed (GX.m rfl (GX.q (.agg [.int .u32 0,.int .i64 0]) ?_)))))
 obtain ⟨c5,hc5,hR⟩:=zz hR; try dsimp only at hR
 try dsimp only at hR
 refine GX.callx (r':=.ro 3 (c5.map TEntry.c)) (zx:=[(0,.box [.own 1 6 0 t0.l.length,.own 2 1 0 t0.free.length,.int .i64 t0.root,.int .i64 t0.n]),(1,.row 6 101 (t0.l.map TNode.c)),(2,.row 1 3 (t0.free.map c_i64))]) (zy:=3) [0,1,2] [] rfl rfl rfl rfl rfl rfl (f34_ok t0 (⟨0,0⟩ : qk) _ hc5) (.inl rfl) rfl rfl rfl (GX.m rfl (GX.done (WK.ret ?_)))
 obtain rfl:=Option.some.inj hR
 exact RetQ.ret [0,1,2] [] (.inr rfl) rfl rfl rfl rfl rfl .refl rfl
theorem f10_ok (f0:TFib) (l1:List qj) (R:Int × Int × TFib) (hR:F10 f0 l1 = some R):FnOk Tryz.prog 10 [.ptr 0 0,.ro 10 (l1.map qj.c)] [(0,.box [.ptr 1 0,.own 4 3 0 f0.sets.length,.mapr 5]),(1,.box [.own 2 6 0 f0.t.l.length,.own 3 1 0 f0.t.free.length,.int .i64 f0.t.root,.int .i64 f0.t.n]),(2,.row 6 101 (f0.t.l.map TNode.c)),(3,.row 1 3 (f0.t.free.map c_i64)),(4,.row 3 71 (f0.sets.map TGroup.c)),(5,.mq f0.atf.1 (f0.atf.2.map (encE (fun y=>.int .i64 y))))] 6 (.tup [.int .i64 R.1,.int .i64 R.2.1]) [(0,.box [.ptr 1 0,.own 8 3 0 R.2.2.sets.length,.mapr 5]),(1,.box [.own 6 6 0 R.2.2.t.l.length,.own 7 1 0 R.2.2.t.free.length,.int .i64 R.2.2.t.root,.int .i64 R.2.2.t.n]),(5,.mq R.2.2.atf.1 (R.2.2.atf.2.map (encE (fun y=>.int .i64 y)))),(6,.row 6 101 (R.2.2.t.l.map TNode.c)),(7,.row 1 3 (R.2.2.t.free.map c_i64)),(8,.row 3 71 (R.2.2.sets.map TGroup.c))] 9:=by
 refine FnOk.wk i10 rfl rfl ?_
 unfold F10 at hR
 try dsimp only at hR
 change WK _ _ _ [ac10] _ ⟨[(0,.ptr 0 0),(1,.ro 10 (l1.map qj.c))],[(0,.box [.ptr 1 0,.own 4 3 0 f0.sets.length,.mapr 5]),(1,.box [.own 2 6 0 f0.t.l.length,.own 3 1 0 f0.t.free.length,.int .i64 f0.t.root,.int .i64 f0.t.n]),(2,.row 6 101 (f0.t.l.map TNode.c)),(3,.row 1 3 (f0.t.free.map c_i64)),(4,.row 3 71 (f0.sets.map TGroup.c)),(5,.mq f0.atf.1 (f0.atf.2.map (encE (fun y=>.int .i64 y))))],6⟩
 unfold ac10
 refine WK.mvB (id:=1) (j:=0) (zx:=[(0,.box [.ptr 1 0,.own 4 3 0 f0.sets.length,.mapr 5]),(1,.box [.own 6 6 0 f0.t.l.length,.own 3 1 0 f0.t.free.length,.int .i64 f0.t.root,.int .i64 f0.t.n]),(3,.row 1 3 (f0.t.free.map c_i64)),(4,.row 3 71 (f0.sets.map TGroup.c)),(5,.mq f0.atf.1 (f0.atf.2.map (encE (fun y=>.int .i64 y)))),(6,.row 6 101 (f0.t.l.map TNode.c))]) rfl rfl rfl (by simp) rfl (WK.mvB (id:=1) (j:=1) (zx:=[(0,.box [.ptr 1 0,.own 4 3 0 f0.sets.length,.mapr 5]),(1,.box [.own 6 6 0 f0.t.l.length,.own 7 1 0 f0.t.free.length,.int .i64 f0.t.root,.int .i64 f0.t.n]),(4,.row 3 71 (f0.sets.map TGroup.c)),(5,.mq f0.atf.1 (f0.atf.2.map (encE (fun y=>.int .i64 y)))),(6,.row 6 101 (f0.t.l.map TNode.c)),(7,.row 1 3 (f0.t.free.map c_i64))]) rfl rfl rfl (by simp) rfl (WK.mvB (id:=0) (j:=1) (zx:=[(0,.box [.ptr 1 0,.own 8 3 0 f0.sets.length,.mapr 5]),(1,.box [.own 6 6 0 f0.t.l.length,.own 7 1 0 f0.t.free.length,.int .i64 f0.t.root,.int .i64 f0.t.n]),(5,.mq f0.atf.1 (f0.atf.2.map (encE (fun y=>.int .i64 y)))),(6,.row 6 101 (f0.t.l.map TNode.c)),(7,.row 1 3 (f0.t.free.map c_i64)),(8,.row 3 71 (f0.sets.map TGroup.c))]) rfl rfl rfl (by simp) rfl (WK.sr mixed (GX.m rfl (GX.m rfl (GX.done (WK.seq (WK.sr mixed (GX.m rfl (GX.q (.bool false) (GX.done (WK.condF rfl (WK.skip ?_)))))))))))))
 refine WK.sr mixed (GX.step (v':=.mapr 9) (zx:=[(0,.box [.ptr 1 0,.own 8 3 0 f0.sets.length,.mapr 5]),(1,.box [.own 6 6 0 f0.t.l.length,.own 7 1 0 f0.t.free.length,.int .i64 f0.t.root,.int .i64 f0.t.n]),(5,.mq f0.atf.1 (f0.atf.2.map (encE (fun y=>.int .i64 y)))),(6,.row 6 101 (f0.t.l.map TNode.c)),(7,.row 1 3 (f0.t.free.map c_i64)),(8,.row 3 71 (f0.sets.map TGroup.c)),(9,.mp (([]:List (qk × Bool)).map (encQ (fun k=>.agg (qk.c k)) (fun y=>.bool y))))]) (zy:=10) rfl rfl rfl rfl rfl rfl rfl (GX.m rfl (GX.done (WK.seq (WK.sr mixed (GX.m rfl (GX.pure (v':=.int .i64 (l1.length:Int)) rfl rfl rfl rfl (zj _ _) (GX.m rfl (GX.done ?_)))))))))
 refine WK.len (t:=1) rfl (by simp) (fun ge57=>?_)
 rw [List.length_map] at ge57
 generalize gi57:F10l5 ([]:List (qk × Bool)) l1 = gh57 at hR
 refine WK.forK (fun k s=>∃ (i20:Nat) (stays6:List (qk × Bool)),i20 ≤ l1.length ∧ k = l1.length - i20 ∧ F10l5 stays6 (l1.drop i20) = gh57 ∧ s = ⟨[(0,.ptr 0 0),(1,.ro 10 (l1.map qj.c)),(6,.mapr 9),(18,.ro 10 (l1.map qj.c)),(19,.int .i64 (l1.length:Int)),(20,.int .i64 (i20:Int))],[(0,.box [.ptr 1 0,.own 6 3 0 f0.sets.length,.mapr 5]),(1,.box [.own 7 6 0 f0.t.l.length,.own 8 1 0 f0.t.free.length,.int .i64 f0.t.root,.int .i64 f0.t.n]),(5,.mq f0.atf.1 (f0.atf.2.map (encE (fun y=>.int .i64 y)))),(6,.row 3 71 (f0.sets.map TGroup.c)),(7,.row 6 101 (f0.t.l.map TNode.c)),(8,.row 1 3 (f0.t.free.map c_i64)),(9,.mp (stays6.map (encQ (fun k=>.agg (qk.c k)) (fun y=>.bool y))))],10⟩) l1.length (by refine ⟨_,?_,0,([]:List (qk × Bool)),(by omega),rfl,gi57,rfl⟩; exact Conv.keepR [0,1,2,3,4,5,8,6,7,9] [] [0,1,6,18,19,20] rfl rfl (qx rfl rfl (qx rfl rfl (qx rfl rfl (qx rfl rfl (qx rfl rfl (qx rfl rfl qy)))))) rfl rfl) ?_
 rintro _ _ ⟨i20,stays6,gj57,rfl,gg57,rfl⟩ gb57 gd57 gk57 ga57 gc57 gf57
 refine WK.sr mixed (GX.q (.bool (decide ((i20:Int) < (l1.length:Int)))) (GX.done (WK.seq ?_)))
 rcases qq (decide ((i20:Int) < (l1.length:Int))) with hb58 | hb58
 ·rw [hb58]
  rw [drop_end hb58,F10l5] at gg57
  refine WK.condF rfl (WK.exit ?_)
  refine QF.exit (gc57 _ ?_)
  subst gg57
  replace hR:=obind_s hR; try dsimp only at hR
  refine WK.sr mixed (GX.m rfl (GX.m rfl (GX.done (WK.seq (WK.sr mixed (GX.m rfl (GX.q (.ptr 0 0) (GX.q (.ptr 0 0) (GX.q (.ptr 1 0) ?_)))))))))
  obtain ⟨c32,hc32,hR⟩:=zz hR; try dsimp only at hR
  try dsimp only at hR
  refine GX.callx (r':=.ro 3 (c32.map TEntry.c)) (zx:=[(0,.box [.ptr 1 0,.own 6 3 0 f0.sets.length,.mapr 5]),(1,.box [.own 7 6 0 f0.t.l.length,.own 8 1 0 f0.t.free.length,.int .i64 f0.t.root,.int .i64 f0.t.n]),(5,.mq f0.atf.1 (f0.atf.2.map (encE (fun y=>.int .i64 y)))),(6,.row 3 71 (f0.sets.map TGroup.c)),(7,.row 6 101 (f0.t.l.map TNode.c)),(8,.row 1 3 (f0.t.free.map c_i64)),(9,.mp (stays6.map (encQ (fun k=>.agg (qk.c k)) (fun y=>.bool y))))]) (zy:=10) [1,7,8] [] rfl rfl rfl rfl rfl rfl (f22_ok f0.t _ hc32) (.inl rfl) rfl rfl rfl (GX.pure (v':=.int .i64 (c32.length:Int)) rfl rfl rfl rfl (zj _ _) (GX.m rfl (GX.done ?_)))
  refine WK.len (t:=32) rfl (by simp) (fun ge86=>?_)
  rw [List.length_map] at ge86
  generalize gi86:F10l4 stays6 0 f0.t.root f0.t.n f0.atf f0.sets f0.t.l f0.t.free c32 = gh86 at hR
  refine WK.forK (fun k s=>∃ (i34:Nat) (out9:Int) (box_2_1:Int) (box_3_1:Int) (map5:QMap Int) (row6:List TGroup) (row7:List TNode) (row8:List Int),i34 ≤ c32.length ∧ k = c32.length - i34 ∧ F10l4 stays6 out9 box_2_1 box_3_1 map5 row6 row7 row8 (c32.drop i34) = gh86 ∧ s = ⟨[(0,.ptr 0 0),(1,.ro 10 (l1.map qj.c)),(6,.mapr 9),(9,.int .i64 out9),(10,.int .i64 0),(32,.ro 3 (c32.map TEntry.c)),(33,.int .i64 (c32.length:Int)),(34,.int .i64 (i34:Int))],[(0,.box [.ptr 1 0,.own 6 3 0 row6.length,.mapr 5]),(1,.box [.own 7 6 0 row7.length,.own 8 1 0 row8.length,.int .i64 box_2_1,.int .i64 box_3_1]),(5,.mq map5.1 (map5.2.map (encE (fun y=>.int .i64 y)))),(6,.row 3 71 (row6.map TGroup.c)),(7,.row 6 101 (row7.map TNode.c)),(8,.row 1 3 (row8.map c_i64)),(9,.mp (stays6.map (encQ (fun k=>.agg (qk.c k)) (fun y=>.bool y))))],10⟩) c32.length (by refine ⟨_,?_,0,0,f0.t.root,f0.t.n,f0.atf,f0.sets,f0.t.l,f0.t.free,(by omega),rfl,gi86,rfl⟩; exact Conv.keepR [0,1,2,3,4,5,6,7,8,9] [] [0,1,6,9,10,32,33,34] rfl rfl (qx rfl rfl (qx rfl rfl (qx rfl rfl (qx rfl rfl (qx rfl rfl (qx rfl rfl (qx rfl rfl (qx rfl rfl qy)))))))) rfl rfl) ?_
  rintro _ _ ⟨i34,out9,box_2_1,box_3_1,map5,row6,row7,row8,gj86,rfl,gg86,rfl⟩ gb86 gd86 gk86 ga86 gc86 gf86
  refine WK.sr mixed (GX.q (.bool (decide ((i34:Int) < (c32.length:Int)))) (GX.done (WK.seq ?_)))
  rcases qq (decide ((i34:Int) < (c32.length:Int))) with hb87 | hb87
  ·rw [hb87]
   rw [drop_end hb87,F10l4] at gg86
   refine WK.condF rfl (WK.exit ?_)
   refine QF.exit (gc86 _ ?_)
   subst gg86
   replace hR:=obind_s hR; try dsimp only at hR
   refine WK.seq (WK.sr mixed (GX.m rfl (GX.pure (v':=.int .i64 (l1.length:Int)) rfl rfl rfl rfl (zj _ _) (GX.m rfl (GX.done ?_)))))
   refine WK.len (t:=1) rfl (by simp) (fun ge102=>?_)
   rw [List.length_map] at ge102
   generalize gi102:F10l2 0 box_2_1 box_3_1 map5 row6 row7 row8 l1 = gh102 at hR
   refine WK.forK (fun k s=>∃ (i52:Nat) (set10:Int) (box_2_1x:Int) (box_3_1x:Int) (map5x:QMap Int) (row6x:List TGroup) (row7x:List TNode) (row8x:List Int),i52 ≤ l1.length ∧ k = l1.length - i52 ∧ F10l2 set10 box_2_1x box_3_1x map5x row6x row7x row8x (l1.drop i52) = gh102 ∧ s = ⟨[(0,.ptr 0 0),(9,.int .i64 out9),(10,.int .i64 set10),(50,.ro 10 (l1.map qj.c)),(51,.int .i64 (l1.length:Int)),(52,.int .i64 (i52:Int))],[(0,.box [.ptr 1 0,.own 6 3 0 row6x.length,.mapr 5]),(1,.box [.own 7 6 0 row7x.length,.own 8 1 0 row8x.length,.int .i64 box_2_1x,.int .i64 box_3_1x]),(5,.mq map5x.1 (map5x.2.map (encE (fun y=>.int .i64 y)))),(6,.row 3 71 (row6x.map TGroup.c)),(7,.row 6 101 (row7x.map TNode.c)),(8,.row 1 3 (row8x.map c_i64))],9⟩) l1.length (by refine ⟨_,?_,0,0,box_2_1,box_3_1,map5,row6,row7,row8,(by omega),rfl,gi102,rfl⟩; exact Conv.keepR [0,1,2,3,4,5,6,7,8] [] [0,9,10,50,51,52] rfl rfl (qx rfl rfl (qx rfl rfl (qx rfl rfl (qx rfl rfl (qx rfl rfl (qx rfl rfl qy)))))) rfl rfl) ?_
   rintro _ _ ⟨i52,set10,box_2_1x,box_3_1x,map5x,row6x,row7x,row8x,gj102,rfl,gg102,rfl⟩ gb102 gd102 gk102 ga102 gc102 gf102
   refine WK.sr mixed (GX.q (.bool (decide ((i52:Int) < (l1.length:Int)))) (GX.done (WK.seq ?_)))
   rcases qq (decide ((i52:Int) < (l1.length:Int))) with hb103 | hb103
   ·rw [hb103]
    rw [drop_end hb103,F10l2] at gg102
    refine WK.condF rfl (WK.exit ?_)
    refine QF.exit (gc102 _ ?_)
    subst gg102
    replace hR:=obind_s hR; try dsimp only at hR
    refine WK.sr mixed ?_
    iterate 4 refine GX.m rfl ?_
    refine GX.done (WK.ret ?_)
    obtain rfl:=Option.some.inj hR
    exact RetQ.ret [0,1,2,3,4,5,7,8,6] [] (.inr rfl) rfl rfl rfl rfl rfl .refl rfl
   ·rw [hb103]
    obtain ⟨x52,hx102,hd102,hlt102⟩:=drop_more hb103
    rw [hd102,F10l2] at gg102
    refine WK.condT rfl (WK.skip (WK.seq ?_))
    refine WK.blockK (fun _ hK104=>?_)
    refine WK.sr mixed (GX.idxT (c:=qj.c) (x:=x52) rfl rfl rfl (Int.natCast_nonneg _) hx102 (GX.q (.agg (qj.c x52)) (GX.step (v':=.ptr 9 0) (zx:=[(0,.box [.ptr 1 0,.own 6 3 0 row6x.length,.mapr 5]),(1,.box [.own 7 6 0 row7x.length,.own 8 1 0 row8x.length,.int .i64 box_2_1x,.int .i64 box_3_1x]),(5,.mq map5x.1 (map5x.2.map (encE (fun y=>.int .i64 y)))),(6,.row 3 71 (row6x.map TGroup.c)),(7,.row 6 101 (row7x.map TNode.c)),(8,.row 1 3 (row8x.map c_i64)),(9,.box [.int .u32 0,.int .i64 0,.int .i64 0,.int .i64 0,.int .i64 0,.int .i64 0,.int .u32 0,.bool false,.int .i64 0,.nils])]) (zy:=10) rfl rfl rfl rfl rfl rfl rfl (GX.step0 (zx:=[(0,.box [.ptr 1 0,.own 6 3 0 row6x.length,.mapr 5]),(1,.box [.own 7 6 0 row7x.length,.own 8 1 0 row8x.length,.int .i64 box_2_1x,.int .i64 box_3_1x]),(5,.mq map5x.1 (map5x.2.map (encE (fun y=>.int .i64 y)))),(6,.row 3 71 (row6x.map TGroup.c)),(7,.row 6 101 (row7x.map TNode.c)),(8,.row 1 3 (row8x.map c_i64)),(9,.box (qj.c x52))]) (zy:=10) rfl rfl rfl rfl rfl (GX.done (WK.seq (WK.drawn mixed (RD.m rfl (RD.q (.ptr 9 0) (RD.q (.agg [.int .u32 x52.P.A,.int .i64 x52.P.N]) (RD.q (.ptr 9 9) (RD.q (.ro 2 (x52.Hops.map THop.c)) ?_))))))))))))
    rcases zw gg102 with ⟨_,gg102⟩ | ⟨c61,hc61,gg102⟩
    ·subst gg102
     first | replace hR:=zq hR | replace hR:=oexc_n hR
     cases hR
    try dsimp only at gg102
    try dsimp only at gg102
    refine RD.callp (r:=.ro 2 (c61.map THop.c)) rfl rfl rfl (f24_ok x52.Hops _ hc61) rfl rfl ?_
    rcases zw gg102 with ⟨_,gg102⟩ | ⟨c62,hc62,gg102⟩
    ·subst gg102
     first | replace hR:=zq hR | replace hR:=oexc_n hR
     cases hR
    try dsimp only at gg102
    try dsimp only at gg102
    refine RD.callx (r':=.bool c62) (zx:=[(0,.box [.ptr 1 0,.own 6 3 0 row6x.length,.mapr 5]),(1,.box [.own 7 6 0 row7x.length,.own 8 1 0 row8x.length,.int .i64 box_2_1x,.int .i64 box_3_1x]),(5,.mq map5x.1 (map5x.2.map (encE (fun y=>.int .i64 y)))),(6,.row 3 71 (row6x.map TGroup.c)),(7,.row 6 101 (row7x.map TNode.c)),(8,.row 1 3 (row8x.map c_i64)),(9,.box (qj.c x52))]) (zy:=10) [0,1,7,8,6,5] [] rfl rfl rfl rfl rfl rfl (f23_ok (⟨(⟨row7x,row8x,box_2_1x,box_3_1x⟩ : TTrie),row6x,map5x⟩ : TFib) x52.P c61 _ hc62) (.inl rfl) rfl rfl rfl (RD.q (.bool (!c62)) (RD.m rfl ?_))
    rcases qq (c62) with hb106 | hb106
    ·rw [hb106]; try simp only [hb106,bb] at gg102
     refine RD.m rfl (RD.q (.ptr 9 0) (RD.q (.agg [.int .u32 x52.P.A,.int .i64 x52.P.N]) (RD.q (.ptr 9 9) (RD.q (.ro 2 (x52.Hops.map THop.c)) ?_))))
     rcases zw gg102 with ⟨_,gg102⟩ | ⟨c70,hc70,gg102⟩
     ·subst gg102
      first | replace hR:=zq hR | replace hR:=oexc_n hR
      cases hR
     try dsimp only at gg102
     refine RD.callx (r':=.int .i64 c70.1) (zx:=[(0,.box [.ptr 1 0,.own 12 3 0 c70.2.sets.length,.mapr 5]),(1,.box [.own 10 6 0 c70.2.t.l.length,.own 11 1 0 c70.2.t.free.length,.int .i64 c70.2.t.root,.int .i64 c70.2.t.n]),(5,.mq c70.2.atf.1 (c70.2.atf.2.map (encE (fun y=>.int .i64 y)))),(9,.box (qj.c x52)),(12,.row 3 71 (c70.2.sets.map TGroup.c)),(11,.row 1 3 (c70.2.t.free.map c_i64)),(10,.row 6 101 (c70.2.t.l.map TNode.c))]) (zy:=13) [0,1,7,8,6,5] [] rfl rfl rfl rfl rfl rfl (f16_ok (⟨(⟨row7x,row8x,box_2_1x,box_3_1x⟩ : TTrie),row6x,map5x⟩ : TFib) x52.P x52.Hops _ hc70) (.inl rfl) rfl rfl rfl ?_
     iterate 2 refine RD.q (.bool (decide (c70.1 = 0))) ?_
     refine RD.done rfl ?_
     rcases qq (decide (c70.1 = 0)) with hb108 | hb108
     ·rw [hb108]; try simp only [hb108,bb] at gg102
      refine WK.condF rfl (WK.skip ?_)
      refine WK.nil (QF.normal (hK104 _ ?_))
      refine WK.regx mixed (GX.pure (v':=.int .i64 ((i52 + 1:Nat):Int)) rfl rfl rfl rfl (congrArg (PVal.int .i64) (wrap_up hlt102 ge102)) (GX.m rfl (GX.done ?_)))
      refine WK.nil (QF.normal ?_)
      refine ga102 _ (l1.length - (i52 + 1)) _ (by omega) ?_ ⟨i52 + 1,set10,c70.2.t.root,c70.2.t.n,c70.2.atf,c70.2.sets,c70.2.t.l,c70.2.t.free,(by omega),rfl,gg102,rfl⟩
      exact Conv.keepR [0,1,2,3,4,5,12,10,11] [] [0,9,10,50,51,52] rfl rfl (qx rfl rfl (qx rfl rfl (qx rfl rfl (qx rfl rfl (qx rfl rfl (qx rfl rfl qy)))))) rfl rfl
     ·rw [hb108]; try simp only [hb108,bb] at gg102
      refine WK.condT rfl (WK.regx mixed (GX.m rfl (GX.q (.int .i64 (IntKind.i64.wrap (set10 + 1))) (GX.m rfl (GX.done ?_)))))
      refine WK.nil (QF.normal (hK104 _ ?_))
      refine WK.regx mixed (GX.pure (v':=.int .i64 ((i52 + 1:Nat):Int)) rfl rfl rfl rfl (congrArg (PVal.int .i64) (wrap_up hlt102 ge102)) (GX.m rfl (GX.done ?_)))
      refine WK.nil (QF.normal ?_)
      refine ga102 _ (l1.length - (i52 + 1)) _ (by omega) ?_ ⟨i52 + 1,(IntKind.i64.wrap (set10 + 1)),c70.2.t.root,c70.2.t.n,c70.2.atf,c70.2.sets,c70.2.t.l,c70.2.t.free,(by omega),rfl,gg102,rfl⟩
      exact Conv.keepR [0,1,2,3,4,5,12,10,11] [] [0,9,10,50,51,52] rfl rfl (qx rfl rfl (qx rfl rfl (qx rfl rfl (qx rfl rfl (qx rfl rfl (qx rfl rfl qy)))))) rfl rfl
    ·rw [hb106]; try simp only [hb106,bb] at gg102
     iterate 7 refine RD.skip rfl rfl ?_
     refine RD.q (.bool false) (RD.done rfl (WK.condF rfl (WK.skip ?_)))
     refine WK.nil (QF.normal (hK104 _ ?_))
     refine WK.regx mixed (GX.pure (v':=.int .i64 ((i52 + 1:Nat):Int)) rfl rfl rfl rfl (congrArg (PVal.int .i64) (wrap_up hlt102 ge102)) (GX.m rfl (GX.done ?_)))
     refine WK.nil (QF.normal ?_)
     refine ga102 _ (l1.length - (i52 + 1)) _ (by omega) ?_ ⟨i52 + 1,set10,box_2_1x,box_3_1x,map5x,row6x,row7x,row8x,(by omega),rfl,gg102,rfl⟩
     exact Conv.keepR [0,1,2,3,4,5,6,7,8] [] [0,9,10,50,51,52] rfl rfl (qx rfl rfl (qx rfl rfl (qx rfl rfl (qx rfl rfl (qx rfl rfl (qx rfl rfl qy)))))) rfl rfl
  ·rw [hb87]
   obtain ⟨x34,hx86,hd86,hlt86⟩:=drop_more hb87
   rw [hd86,F10l4] at gg86
   refine WK.condT rfl (WK.skip (WK.seq ?_))
   refine WK.blockK (fun _ hK109=>?_)
   refine WK.sr mixed (GX.idxT (c:=TEntry.c) (x:=x34) rfl rfl rfl (Int.natCast_nonneg _) hx86 (GX.q (.agg (TEntry.c x34)) (GX.step (v':=.ptr 10 0) (zx:=[(0,.box [.ptr 1 0,.own 6 3 0 row6.length,.mapr 5]),(1,.box [.own 7 6 0 row7.length,.own 8 1 0 row8.length,.int .i64 box_2_1,.int .i64 box_3_1]),(5,.mq map5.1 (map5.2.map (encE (fun y=>.int .i64 y)))),(6,.row 3 71 (row6.map TGroup.c)),(7,.row 6 101 (row7.map TNode.c)),(8,.row 1 3 (row8.map c_i64)),(9,.mp (stays6.map (encQ (fun k=>.agg (qk.c k)) (fun y=>.bool y)))),(10,.box [.int .u32 0,.int .i64 0,.int .i64 0])]) (zy:=11) rfl rfl rfl rfl rfl rfl rfl (GX.step0 (zx:=[(0,.box [.ptr 1 0,.own 6 3 0 row6.length,.mapr 5]),(1,.box [.own 7 6 0 row7.length,.own 8 1 0 row8.length,.int .i64 box_2_1,.int .i64 box_3_1]),(5,.mq map5.1 (map5.2.map (encE (fun y=>.int .i64 y)))),(6,.row 3 71 (row6.map TGroup.c)),(7,.row 6 101 (row7.map TNode.c)),(8,.row 1 3 (row8.map c_i64)),(9,.mp (stays6.map (encQ (fun k=>.agg (qk.c k)) (fun y=>.bool y)))),(10,.box (TEntry.c x34))]) (zy:=11) rfl rfl rfl rfl rfl (GX.done (WK.sr mixed (GX.m rfl (GX.q (.ptr 10 0) (GX.q (.agg [.int .u32 x34.P.A,.int .i64 x34.P.N]) (GX.pure (v':=.bool ((findQ (fun (a b:qk)=>(decide (a.A = b.A) && (decide (a.N = b.N) && true))) stays6 x34.P).getD false)) rfl rfl rfl (core_lookF (kc:=qk.c) (eq:=(fun (a b:qk)=>(decide (a.A = b.A) && (decide (a.N = b.N) && true)))) (e:=(fun y=>.bool y)) (q:=x34.P) (z0:=false) (fun _ _=>rfl) rfl rfl) rfl (GX.q (.bool (!((findQ (fun (a b:qk)=>(decide (a.A = b.A) && (decide (a.N = b.N) && true))) stays6 x34.P).getD false))) (GX.done ?_))))))))))))
   rcases qq ((findQ (fun (a b:qk)=>(decide (a.A = b.A) && (decide (a.N = b.N) && true))) stays6 x34.P).getD false) with hb110 | hb110
   ·rw [hb110]; try simp only [hb110,bb] at gg86
    refine WK.condT rfl (WK.sr mixed (GX.m rfl (GX.q (.ptr 10 0) (GX.q (.agg [.int .u32 x34.P.A,.int .i64 x34.P.N]) ?_))))
    rcases zw gg86 with ⟨_,gg86⟩ | ⟨c46,hc46,gg86⟩
    ·subst gg86
     first | replace hR:=zq hR | replace hR:=oexc_n hR
     cases hR
    try dsimp only at gg86
    refine GX.callx (r':=.bool c46.1) (zx:=[(0,.box [.ptr 1 0,.own 13 3 0 c46.2.sets.length,.mapr 5]),(1,.box [.own 11 6 0 c46.2.t.l.length,.own 12 1 0 c46.2.t.free.length,.int .i64 c46.2.t.root,.int .i64 c46.2.t.n]),(5,.mq c46.2.atf.1 (c46.2.atf.2.map (encE (fun y=>.int .i64 y)))),(9,.mp (stays6.map (encQ (fun k=>.agg (qk.c k)) (fun y=>.bool y)))),(10,.box (TEntry.c x34)),(13,.row 3 71 (c46.2.sets.map TGroup.c)),(12,.row 1 3 (c46.2.t.free.map c_i64)),(11,.row 6 101 (c46.2.t.l.map TNode.c))]) (zy:=14) [0,1,7,8,6,5] [] rfl rfl rfl rfl rfl rfl (f19_ok (⟨(⟨row7,row8,box_2_1,box_3_1⟩ : TTrie),row6,map5⟩ : TFib) x34.P _ hc46) (.inl rfl) rfl rfl rfl (GX.done (WK.regx mixed (GX.m rfl (GX.q (.int .i64 (IntKind.i64.wrap (out9 + 1))) (GX.m rfl (GX.done ?_))))))
    refine WK.nil (QF.normal (hK109 _ ?_))
    refine WK.regx mixed (GX.pure (v':=.int .i64 ((i34 + 1:Nat):Int)) rfl rfl rfl rfl (congrArg (PVal.int .i64) (wrap_up hlt86 ge86)) (GX.m rfl (GX.done ?_)))
    refine WK.nil (QF.normal ?_)
    refine ga86 _ (c32.length - (i34 + 1)) _ (by omega) ?_ ⟨i34 + 1,(IntKind.i64.wrap (out9 + 1)),c46.2.t.root,c46.2.t.n,c46.2.atf,c46.2.sets,c46.2.t.l,c46.2.t.free,(by omega),rfl,gg86,rfl⟩
    exact Conv.keepR [0,1,2,3,4,5,13,11,12,9] [] [0,1,6,9,10,32,33,34] rfl rfl (qx rfl rfl (qx rfl rfl (qx rfl rfl (qx rfl rfl (qx rfl rfl (qx rfl rfl (qx rfl rfl (qx rfl rfl qy)))))))) rfl rfl
   ·rw [hb110]; try simp only [hb110,bb] at gg86
    refine WK.condF rfl (WK.skip ?_)
    refine WK.nil (QF.normal (hK109 _ ?_))
    refine WK.regx mixed (GX.pure (v':=.int .i64 ((i34 + 1:Nat):Int)) rfl rfl rfl rfl (congrArg (PVal.int .i64) (wrap_up hlt86 ge86)) (GX.m rfl (GX.done ?_)))
    refine WK.nil (QF.normal ?_)
    refine ga86 _ (c32.length - (i34 + 1)) _ (by omega) ?_ ⟨i34 + 1,out9,box_2_1,box_3_1,map5,row6,row7,row8,(by omega),rfl,gg86,rfl⟩
    exact Conv.keepR [0,1,2,3,4,5,6,7,8,9] [] [0,1,6,9,10,32,33,34] rfl rfl (qx rfl rfl (qx rfl rfl (qx rfl rfl (qx rfl rfl (qx rfl rfl (qx rfl rfl (qx rfl rfl (qx rfl rfl qy)))))))) rfl rfl
 ·rw [hb58]
  obtain ⟨x20,hx57,hd57,hlt57⟩:=drop_more hb58
  rw [hd57,F10l5] at gg57
  refine WK.condT rfl (WK.skip (WK.seq ?_))
  refine WK.blockK (fun _ hK112=>?_)
  refine WK.sr mixed (GX.idxT (c:=qj.c) (x:=x20) rfl rfl rfl (Int.natCast_nonneg _) hx57 (GX.q (.agg (qj.c x20)) (GX.step (v':=.ptr 10 0) (zx:=[(0,.box [.ptr 1 0,.own 6 3 0 f0.sets.length,.mapr 5]),(1,.box [.own 7 6 0 f0.t.l.length,.own 8 1 0 f0.t.free.length,.int .i64 f0.t.root,.int .i64 f0.t.n]),(5,.mq f0.atf.1 (f0.atf.2.map (encE (fun y=>.int .i64 y)))),(6,.row 3 71 (f0.sets.map TGroup.c)),(7,.row 6 101 (f0.t.l.map TNode.c)),(8,.row 1 3 (f0.t.free.map c_i64)),(9,.mp (stays6.map (encQ (fun k=>.agg (qk.c k)) (fun y=>.bool y)))),(10,.box [.int .u32 0,.int .i64 0,.int .i64 0,.int .i64 0,.int .i64 0,.int .i64 0,.int .u32 0,.bool false,.int .i64 0,.nils])]) (zy:=11) rfl rfl rfl rfl rfl rfl rfl (GX.step0 (zx:=[(0,.box [.ptr 1 0,.own 6 3 0 f0.sets.length,.mapr 5]),(1,.box [.own 7 6 0 f0.t.l.length,.own 8 1 0 f0.t.free.length,.int .i64 f0.t.root,.int .i64 f0.t.n]),(5,.mq f0.atf.1 (f0.atf.2.map (encE (fun y=>.int .i64 y)))),(6,.row 3 71 (f0.sets.map TGroup.c)),(7,.row 6 101 (f0.t.l.map TNode.c)),(8,.row 1 3 (f0.t.free.map c_i64)),(9,.mp (stays6.map (encQ (fun k=>.agg (qk.c k)) (fun y=>.bool y)))),(10,.box (qj.c x20))]) (zy:=11) rfl rfl rfl rfl rfl (GX.done (WK.regx mixed (GX.m rfl (GX.q (.ptr 10 0) (GX.q (.agg [.int .u32 x20.P.A,.int .i64 x20.P.N]) (GX.step0 (zx:=[(0,.box [.ptr 1 0,.own 6 3 0 f0.sets.length,.mapr 5]),(1,.box [.own 7 6 0 f0.t.l.length,.own 8 1 0 f0.t.free.length,.int .i64 f0.t.root,.int .i64 f0.t.n]),(5,.mq f0.atf.1 (f0.atf.2.map (encE (fun y=>.int .i64 y)))),(6,.row 3 71 (f0.sets.map TGroup.c)),(7,.row 6 101 (f0.t.l.map TNode.c)),(8,.row 1 3 (f0.t.free.map c_i64)),(9,.mp ((setQ (fun (a b:qk)=>(decide (a.A = b.A) && (decide (a.N = b.N) && true))) stays6 x20.P true).map (encQ (fun k=>.agg (qk.c k)) (fun y=>.bool y)))),(10,.box (qj.c x20))]) (zy:=11) rfl rfl (core_msetF (kc:=qk.c) (eq:=(fun (a b:qk)=>(decide (a.A = b.A) && (decide (a.N = b.N) && true)))) (e:=(fun y=>.bool y)) (q:=x20.P) (y0:=true) (fun _ _=>rfl) rfl rfl rfl) rfl rfl (GX.done ?_)))))))))))
  refine WK.nil (QF.normal (hK112 _ ?_))
  refine WK.regx mixed (GX.pure (v':=.int .i64 ((i20 + 1:Nat):Int)) rfl rfl rfl rfl (congrArg (PVal.int .i64) (wrap_up hlt57 ge57)) (GX.m rfl (GX.done ?_)))
  refine WK.nil (QF.normal ?_)
  refine ga57 _ (l1.length - (i20 + 1)) _ (by omega) ?_ ⟨i20 + 1,(setQ (fun (a b:qk)=>(decide (a.A = b.A) && (decide (a.N = b.N) && true))) stays6 x20.P true),(by omega),rfl,gg57,rfl⟩
  exact Conv.keepR [0,1,2,3,4,5,6,7,8,9] [] [0,1,6,18,19,20] rfl rfl (qx rfl rfl (qx rfl rfl (qx rfl rfl (qx rfl rfl (qx rfl rfl (qx rfl rfl qy)))))) rfl rfl
theorem f12_ok (f0:TFib) (R:(List TEntry)) (hR:F12 f0 = some R):FnOk Tryz.prog 12 [.ptr 0 0] [(0,.box [.ptr 1 0,.own 4 3 0 f0.sets.length,.mapr 5]),(1,.box [.own 2 6 0 f0.t.l.length,.own 3 1 0 f0.t.free.length,.int .i64 f0.t.root,.int .i64 f0.t.n]),(2,.row 6 101 (f0.t.l.map TNode.c)),(3,.row 1 3 (f0.t.free.map c_i64)),(4,.row 3 71 (f0.sets.map TGroup.c)),(5,.mq f0.atf.1 (f0.atf.2.map (encE (fun y=>.int .i64 y))))] 6 (.ro 3 (R.map TEntry.c)) [(0,.box [.ptr 1 0,.own 4 3 0 f0.sets.length,.mapr 5]),(1,.box [.own 2 6 0 f0.t.l.length,.own 3 1 0 f0.t.free.length,.int .i64 f0.t.root,.int .i64 f0.t.n]),(2,.row 6 101 (f0.t.l.map TNode.c)),(3,.row 1 3 (f0.t.free.map c_i64)),(4,.row 3 71 (f0.sets.map TGroup.c)),(5,.mq f0.atf.1 (f0.atf.2.map (encE (fun y=>.int .i64 y))))] 6:=by
 refine FnOk.wk i12 rfl rfl ?_
 unfold F12 at hR
 try dsimp only at hR
 change WK _ _ _ [ac12] _ ⟨[(0,.ptr 0 0)],[(0,.box [.ptr 1 0,.own 4 3 0 f0.sets.length,.mapr 5]),(1,.box [.own 2 6 0 f0.t.l.length,.own 3 1 0 f0.t.free.length,.int .i64 f0.t.root,.int .i64 f0.t.n]),(2,.row 6 101 (f0.t.l.map TNode.c)),(3,.row 1 3 (f0.t.free.map c_i64)),(4,.row 3 71 (f0.sets.map TGroup.c)),(5,.mq f0.atf.1 (f0.atf.2.map (encE (fun y=>.int .i64 y))))],6⟩
 unfold ac12
 refine WK.sr mixed (GX.m rfl (GX.done (WK.seq (WK.sr mixed (GX.m rfl (GX.q (.bool false) (GX.done (WK.condF rfl (WK.skip (WK.sr mixed (GX.m rfl (GX.q (.ptr 0 0) (GX.q (.ptr 0 0) ?_)))))))))))))
 refine GX.q (.ptr 1 0) ?_
 obtain ⟨c9,hc9,hR⟩:=zz hR; try dsimp only at hR
 try dsimp only at hR
 refine GX.callx (r':=.ro 3 (c9.map TEntry.c)) (zx:=[(0,.box [.ptr 1 0,.own 4 3 0 f0.sets.length,.mapr 5]),(1,.box [.own 2 6 0 f0.t.l.length,.own 3 1 0 f0.t.free.length,.int .i64 f0.t.root,.int .i64 f0.t.n]),(2,.row 6 101 (f0.t.l.map TNode.c)),(3,.row 1 3 (f0.t.free.map c_i64)),(4,.row 3 71 (f0.sets.map TGroup.c)),(5,.mq f0.atf.1 (f0.atf.2.map (encE (fun y=>.int .i64 y))))]) (zy:=6) [1,2,3] [] rfl rfl rfl rfl rfl rfl (f22_ok f0.t _ hc9) (.inl rfl) rfl rfl rfl (GX.m rfl (GX.done (WK.ret ?_)))
 obtain rfl:=Option.some.inj hR
 exact RetQ.ret [0,1,2,3,4,5] [] (.inr rfl) rfl rfl rfl rfl rfl .refl rfl
theorem f13_ok (a0:List THop) (b1:List THop) (R:Bool) (hR:F13 a0 b1 = some R):FnOk Tryz.prog 13 [.ro 2 (a0.map THop.c),.ro 2 (b1.map THop.c)] [] 0 (.bool R) [] 0:=by
 refine FnOk.wk i13 rfl rfl ?_
 unfold F13 at hR
 try dsimp only at hR
 change WK _ _ _ [ac13] _ ⟨[(0,.ro 2 (a0.map THop.c)),(1,.ro 2 (b1.map THop.c))],[],0⟩
 unfold ac13
 refine WK.sr mixed (GX.m rfl (GX.done (WK.seq (WK.sr mixed (GX.m rfl (GX.pure (v':=.int .i64 (a0.length:Int)) rfl rfl rfl rfl (zj _ _) (GX.m rfl (GX.pure (v':=.int .i64 (b1.length:Int)) rfl rfl rfl rfl (zj _ _) (GX.q (.bool (!decide ((a0.length:Int) = (b1.length:Int)))) (GX.done ?_))))))))))
 rcases qq (decide ((a0.length:Int) = (b1.length:Int))) with hb1 | hb1
 ·rw [hb1]; first | replace hR:=wz hb1 hR | (try simp only [hb1,bb] at hR)
  refine WK.condT rfl (WK.sr mixed (GX.m rfl (GX.done (WK.ret ?_))))
  obtain rfl:=Option.some.inj hR
  exact RetQ.fr [] (.inr rfl) rfl rfl rfl rfl
 ·rw [hb1]; first | replace hR:=wy hb1 hR | (try simp only [hb1,bb] at hR)
  refine WK.condF rfl (WK.skip (WK.seq (WK.sr mixed (GX.m rfl (GX.done ?_)))))
  refine WK.len (t:=0) rfl (by simp) (fun ge2=>?_)
  rw [List.length_map] at ge2
  generalize gi2:F13l1 b1 0 a0 = gh2 at hR
  refine WK.forK (fun k s=>∃ (i5:Nat),i5 ≤ a0.length ∧ k = a0.length - i5 ∧ F13l1 b1 i5 (a0.drop i5) = gh2 ∧ s = ⟨[(0,.ro 2 (a0.map THop.c)),(1,.ro 2 (b1.map THop.c)),(5,.int .i64 (i5:Int))],[],0⟩) a0.length (by refine ⟨_,?_,0,(by omega),rfl,gi2,rfl⟩; exact Conv.keep [] [] [0,1,5] rfl rfl (qx rfl rfl (qx rfl rfl (qx rfl rfl qy))) rfl rfl) ?_
  rintro _ _ ⟨i5,gj2,rfl,gg2,rfl⟩ gb2 gd2 gk2 ga2 gc2 gf2
  refine WK.seq (WK.sr mixed (GX.m rfl (GX.m rfl (GX.pure (v':=.int .i64 (a0.length:Int)) rfl rfl rfl rfl (zj _ _) (GX.q (.bool (decide ((i5:Int) < (a0.length:Int)))) (GX.done ?_))))))
  rcases qq (decide ((i5:Int) < (a0.length:Int))) with hb3 | hb3
  ·rw [hb3]
   rw [drop_end hb3,F13l1] at gg2
   refine WK.condF rfl (WK.exit ?_)
   refine QF.exit (gc2 _ ?_)
   subst gg2
   replace hR:=oexc_k hR; try dsimp only at hR
   refine WK.sr mixed (GX.m rfl (GX.done (WK.ret ?_)))
   obtain rfl:=Option.some.inj hR
   exact RetQ.fr [] (.inr rfl) rfl rfl rfl rfl
  ·rw [hb3]
   obtain ⟨x5,hx2,hd2,hlt2⟩:=drop_more hb3
   rw [hd2,F13l1] at gg2
   refine WK.condT rfl (WK.skip (WK.seq ?_))
   refine WK.blockK (fun _ hK4=>?_)
   refine WK.seq (WK.drawn mixed (RD.m rfl (RD.m rfl (RD.idxT (c:=THop.c) (x:=x5) rfl rfl rfl (Int.natCast_nonneg _) hx2 (RD.q (.agg (THop.c x5)) (RD.m rfl (RD.m rfl ?_)))))))
   rcases zw gg2 with ⟨_,gg2⟩ | ⟨x904,hx904,gg2⟩
   ·subst gg2
    first | replace hR:=zq hR | replace hR:=oexc_n hR
    cases hR
   try dsimp only at gg2
   obtain ⟨hx9040,hx904j,hx904l,hx904⟩:=zk hx904
   refine RD.idxT (c:=THop.c) (x:=x904) rfl rfl rfl hx9040 hx904 (RD.q (.agg (THop.c x904)) (RD.q (.bool (!(decide (x5.Iface = x904.Iface) && (decide (x5.Gate = x904.Gate) && true)))) (RD.done rfl ?_)))
   rcases qq (decide (x5.Iface = x904.Iface) && (decide (x5.Gate = x904.Gate) && true)) with hb6 | hb6
   ·rw [hb6]; try simp only [hb6,bb] at gg2
    refine WK.condT rfl (WK.sr mixed (GX.m rfl (GX.done (WK.ret (QF.ret ?_)))))
    refine QF.ret (gf2 _ _ ?_)
    subst gg2
    first | replace hR:=oexc_e hR | replace hR:=oexc_k hR | replace hR:=obind_s hR
    try dsimp only at hR
    obtain rfl:=Option.some.inj hR
    exact RetQ.fr [] (.inr rfl) rfl rfl rfl rfl
   ·rw [hb6]; try simp only [hb6,bb] at gg2
    refine WK.condF rfl (WK.skip ?_)
    refine WK.nil (QF.normal (hK4 _ ?_))
    refine WK.regx mixed (GX.m rfl (GX.pure (v':=.int .i64 ((i5 + 1:Nat):Int)) rfl rfl rfl rfl (congrArg (PVal.int .i64) (wrap_up hlt2 ge2)) (GX.m rfl (GX.done ?_))))
    refine WK.nil (QF.normal ?_)
    refine ga2 _ (a0.length - (i5 + 1)) _ (by omega) ?_ ⟨i5 + 1,(by omega),rfl,gg2,rfl⟩
    exact Conv.keep [] [] [0,1,5] rfl rfl (qx rfl rfl (qx rfl rfl (qx rfl rfl qy))) rfl rfl
theorem f14_ok (l0:List THop) (R:(List THop)) (hR:F14 l0 = some R):FnOk Tryz.prog 14 [.ro 2 (l0.map THop.c)] [] 0 (.ro 2 (R.map THop.c)) [] 0:=by
 refine FnOk.wk i14 rfl rfl ?_
 unfold F14 at hR
 try dsimp only at hR
 change WK _ _ _ [ac14] _ ⟨[(0,.ro 2 (l0.map THop.c))],[],0⟩
 unfold ac14
 refine WK.sr mixed (GX.m rfl (GX.done (WK.sr mixed (GX.step (v':=.own 0 2 0 (([]:List THop)).length) (zx:=[(0,.row 2 72 (([]:List THop).map THop.c))]) (zy:=1) rfl rfl rfl rfl rfl rfl rfl (GX.m rfl (GX.done (WK.seq (WK.sr mixed (GX.m rfl (GX.done ?_))))))))))
 refine WK.len (t:=0) rfl (by simp) (fun ge4=>?_)
 rw [List.length_map] at ge4
 generalize gi4:F14l1 ([]:List THop) l0 = gh4 at hR
 refine WK.forK (fun k s=>∃ (i4:Nat) (out3:List THop),i4 ≤ l0.length ∧ k = l0.length - i4 ∧ F14l1 out3 (l0.drop i4) = gh4 ∧ s = ⟨[(0,.ro 2 (l0.map THop.c)),(3,.own 0 2 0 out3.length),(4,.int .i64 (i4:Int))],[(0,.row 2 72 (out3.map THop.c))],1⟩) l0.length (by refine ⟨_,?_,0,([]:List THop),(by omega),rfl,gi4,rfl⟩; exact Conv.keep [0] [] [0,3,4] rfl rfl (qx rfl rfl (qx rfl rfl (qx rfl rfl qy))) rfl rfl) ?_
 rintro _ _ ⟨i4,out3,gj4,rfl,gg4,rfl⟩ gb4 gd4 gk4 ga4 gc4 gf4
 refine WK.seq (WK.sr mixed (GX.m rfl (GX.m rfl (GX.pure (v':=.int .i64 (l0.length:Int)) rfl rfl rfl rfl (zj _ _) (GX.q (.bool (decide ((i4:Int) < (l0.length:Int)))) (GX.done ?_))))))
 rcases qq (decide ((i4:Int) < (l0.length:Int))) with hb5 | hb5
 ·rw [hb5]
  rw [drop_end hb5,F14l1] at gg4
  refine WK.condF rfl (WK.exit ?_)
  refine QF.exit (gc4 _ ?_)
  subst gg4
  replace hR:=obind_s hR; try dsimp only at hR
  refine WK.sr mixed (GX.m rfl (GX.m rfl (GX.done (WK.ret ?_))))
  obtain rfl:=Option.some.inj hR
  exact RetQ.fr [0] (.inr rfl) rfl rfl (qz (view_rowT rfl rfl) qw) rfl
 ·rw [hb5]
  obtain ⟨x4,hx4,hd4,hlt4⟩:=drop_more hb5
  rw [hd4,F14l1] at gg4
  refine WK.condT rfl (WK.skip (WK.seq ?_))
  refine WK.blockK (fun _ hK6=>?_)
  refine WK.drawn mixed (RD.m rfl (RD.m rfl (RD.m rfl (RD.idxT (c:=THop.c) (x:=x4) rfl rfl rfl (Int.natCast_nonneg _) hx4 (RD.q (.rptr (THop.c x4)) (RD.q (.int .i64 x4.Iface) (RD.m rfl (RD.m rfl (RD.idxT (c:=THop.c) (x:=x4) rfl rfl rfl (Int.natCast_nonneg _) hx4 (RD.q (.rptr [.int .u32 x4.Gate]) (RD.q (.int .u32 x4.Gate) (RD.q (.agg (THop.c x4)) (RD.step (v':=.own 1 2 0 (([x4]:List THop)).length) (zx:=[(0,.row 2 72 (out3.map THop.c)),(1,.row 2 72 (([x4]:List THop).map THop.c))]) (zy:=2) rfl rfl rfl rfl rfl rfl rfl ?_)))))))))))))
  rcases qq (decide (out3.length < 1099511627776)) with hg7 | hg7
  ·replace gg4:=wz hg7 gg4
   subst gg4
   first | replace hR:=zq hR | replace hR:=oexc_n hR
   cases hR
  replace gg4:=wy hg7 gg4; try dsimp only at gg4
  have hg7_:=of_decide_eq_true hg7
  refine RD.appT (c:=THop.c) (L:=out3) (X:=([x4]:List THop)) (zx:=[(1,.row 2 72 (([x4]:List THop).map THop.c)),(2,.row 2 72 ((out3 ++ ([x4]:List THop)).map THop.c))]) (zy:=3) rfl rfl rfl rfl (elems_own rfl) (by ((try simp only [List.length_append,List.length_cons,List.length_nil,List.length_map,decide_eq_true_eq,decide_eq_false_iff_not] at *) <;> omega)) (by ((try simp only [List.length_append,List.length_cons,List.length_nil,List.length_map,decide_eq_true_eq,decide_eq_false_iff_not] at *) <;> omega)) rfl rfl rfl rfl (RD.m rfl (RD.done rfl ?_))
  refine WK.nil (QF.normal (hK6 _ ?_))
  refine WK.regx mixed (GX.m rfl (GX.pure (v':=.int .i64 ((i4 + 1:Nat):Int)) rfl rfl rfl rfl (congrArg (PVal.int .i64) (wrap_up hlt4 ge4)) (GX.m rfl (GX.done ?_))))
  refine WK.nil (QF.normal ?_)
  refine ga4 _ (l0.length - (i4 + 1)) _ (by omega) ?_ ⟨i4 + 1,(out3 ++ ([x4]:List THop)),(by omega),rfl,gg4,rfl⟩
  exact Conv.keep [2] [] [0,3,4] rfl rfl (qx rfl rfl (qx rfl rfl (qx rfl rfl qy))) rfl rfl
theorem f18_ok (f0:TFib) (p1:qk) (l2:List TEntry) (R:(List THop)) (hR:F18 f0 p1 l2 = some R):FnOk Tryz.prog 18 [.ptr 0 0,.agg (qk.c p1),.ro 3 (l2.map TEntry.c)] [(0,.box [.ptr 1 0,.own 4 3 0 f0.sets.length,.mapr 5]),(1,.box [.own 2 6 0 f0.t.l.length,.own 3 1 0 f0.t.free.length,.int .i64 f0.t.root,.int .i64 f0.t.n]),(2,.row 6 101 (f0.t.l.map TNode.c)),(3,.row 1 3 (f0.t.free.map c_i64)),(4,.row 3 71 (f0.sets.map TGroup.c)),(5,.mq f0.atf.1 (f0.atf.2.map (encE (fun y=>.int .i64 y))))] 6 (.ro 2 (R.map THop.c)) [(0,.box [.ptr 1 0,.own 4 3 0 f0.sets.length,.mapr 5]),(1,.box [.own 2 6 0 f0.t.l.length,.own 3 1 0 f0.t.free.length,.int .i64 f0.t.root,.int .i64 f0.t.n]),(2,.row 6 101 (f0.t.l.map TNode.c)),(3,.row 1 3 (f0.t.free.map c_i64)),(4,.row 3 71 (f0.sets.map TGroup.c)),(5,.mq f0.atf.1 (f0.atf.2.map (encE (fun y=>.int .i64 y))))] 6:=by
 refine FnOk.wk i18 rfl rfl ?_
 unfold F18 at hR
 try dsimp only at hR
 change WK _ _ _ [ac18] _ ⟨[(0,.ptr 0 0),(1,.agg (qk.c p1)),(2,.ro 3 (l2.map TEntry.c))],[(0,.box [.ptr 1 0,.own 4 3 0 f0.sets.length,.mapr 5]),(1,.box [.own 2 6 0 f0.t.l.length,.own 3 1 0 f0.t.free.length,.int .i64 f0.t.root,.int .i64 f0.t.n]),(2,.row 6 101 (f0.t.l.map TNode.c)),(3,.row 1 3 (f0.t.free.map c_i64)),(4,.row 3 71 (f0.sets.map TGroup.c)),(5,.mq f0.atf.1 (f0.atf.2.map (encE (fun y=>.int .i64 y))))],6⟩
 unfold ac18
 refine WK.sr mixed (GX.step (v':=.ptr 6 0) (zx:=[(0,.box [.ptr 1 0,.own 4 3 0 f0.sets.length,.mapr 5]),(1,.box [.own 2 6 0 f0.t.l.length,.own 3 1 0 f0.t.free.length,.int .i64 f0.t.root,.int .i64 f0.t.n]),(2,.row 6 101 (f0.t.l.map TNode.c)),(3,.row 1 3 (f0.t.free.map c_i64)),(4,.row 3 71 (f0.sets.map TGroup.c)),(5,.mq f0.atf.1 (f0.atf.2.map (encE (fun y=>.int .i64 y)))),(6,.box (qk.c p1))]) (zy:=7) rfl rfl rfl rfl rfl rfl rfl (GX.m rfl (GX.done (WK.seq (WK.sr mixed (GX.m rfl (GX.done ?_)))))))
 refine WK.len (t:=2) rfl (by simp) (fun ge1=>?_)
 rw [List.length_map] at ge1
 generalize gi1:F18l1 p1 l2 = gh1 at hR
 refine WK.forK (fun k s=>∃ (i7:Nat),i7 ≤ l2.length ∧ k = l2.length - i7 ∧ F18l1 p1 (l2.drop i7) = gh1 ∧ s = ⟨[(0,.ptr 0 0),(2,.ro 3 (l2.map TEntry.c)),(4,.ptr 6 0),(7,.int .i64 (i7:Int))],[(0,.box [.ptr 1 0,.own 4 3 0 f0.sets.length,.mapr 5]),(1,.box [.own 2 6 0 f0.t.l.length,.own 3 1 0 f0.t.free.length,.int .i64 f0.t.root,.int .i64 f0.t.n]),(2,.row 6 101 (f0.t.l.map TNode.c)),(3,.row 1 3 (f0.t.free.map c_i64)),(4,.row 3 71 (f0.sets.map TGroup.c)),(5,.mq f0.atf.1 (f0.atf.2.map (encE (fun y=>.int .i64 y)))),(6,.box (qk.c p1))],7⟩) l2.length (by refine ⟨_,?_,0,(by omega),rfl,gi1,rfl⟩; exact Conv.keep [0,1,2,3,4,5,6] [] [0,2,4,7] rfl rfl (qx rfl rfl (qx rfl rfl (qx rfl rfl (qx rfl rfl qy)))) rfl rfl) ?_
 rintro _ _ ⟨i7,gj1,rfl,gg1,rfl⟩ gb1 gd1 gk1 ga1 gc1 hQ_1
 refine WK.seq (WK.sr mixed (GX.m rfl (GX.m rfl (GX.pure (v':=.int .i64 (l2.length:Int)) rfl rfl rfl rfl (zj _ _) (GX.q (.bool (decide ((i7:Int) < (l2.length:Int)))) (GX.done ?_))))))
 rcases qq (decide ((i7:Int) < (l2.length:Int))) with hb2 | hb2
 ·rw [hb2]
  rw [drop_end hb2,F18l1] at gg1
  refine WK.condF rfl (WK.exit ?_)
  refine QF.exit (gc1 _ ?_)
  subst gg1
  replace hR:=oexc_k hR; try dsimp only at hR
  refine WK.sr mixed (GX.m rfl (GX.q (.ptr 6 0) (GX.q (.int .u32 p1.A) ?_)))
  obtain ⟨c40,hc40,hR⟩:=zz hR; try dsimp only at hR
  refine GX.callx (r':=.tup [.agg (qk.c c40.1),.ro 2 (c40.2.1.map THop.c),.bool c40.2.2]) (zx:=[(0,.box [.ptr 1 0,.own 4 3 0 f0.sets.length,.mapr 5]),(1,.box [.own 2 6 0 f0.t.l.length,.own 3 1 0 f0.t.free.length,.int .i64 f0.t.root,.int .i64 f0.t.n]),(2,.row 6 101 (f0.t.l.map TNode.c)),(3,.row 1 3 (f0.t.free.map c_i64)),(4,.row 3 71 (f0.sets.map TGroup.c)),(5,.mq f0.atf.1 (f0.atf.2.map (encE (fun y=>.int .i64 y)))),(6,.box (qk.c p1))]) (zy:=7) [0,1,2,3,4,5] [] rfl rfl rfl rfl rfl rfl (f11_ok f0 p1.A _ hc40) (.inl rfl) rfl rfl rfl (GX.m rfl (GX.q (.agg (qk.c c40.1)) (GX.q (.ro 2 (c40.2.1.map THop.c)) (GX.q (.bool c40.2.2) (GX.step (v':=.ptr 7 0) (zx:=[(0,.box [.ptr 1 0,.own 4 3 0 f0.sets.length,.mapr 5]),(1,.box [.own 2 6 0 f0.t.l.length,.own 3 1 0 f0.t.free.length,.int .i64 f0.t.root,.int .i64 f0.t.n]),(2,.row 6 101 (f0.t.l.map TNode.c)),(3,.row 1 3 (f0.t.free.map c_i64)),(4,.row 3 71 (f0.sets.map TGroup.c)),(5,.mq f0.atf.1 (f0.atf.2.map (encE (fun y=>.int .i64 y)))),(6,.box (qk.c p1)),(7,.box [.int .u32 0,.int .i64 0])]) (zy:=8) rfl rfl rfl rfl rfl rfl rfl (GX.step0 (zx:=[(0,.box [.ptr 1 0,.own 4 3 0 f0.sets.length,.mapr 5]),(1,.box [.own 2 6 0 f0.t.l.length,.own 3 1 0 f0.t.free.length,.int .i64 f0.t.root,.int .i64 f0.t.n]),(2,.row 6 101 (f0.t.l.map TNode.c)),(3,.row 1 3 (f0.t.free.map c_i64)),(4,.row 3 71 (f0.sets.map TGroup.c)),(5,.mq f0.atf.1 (f0.atf.2.map (encE (fun y=>.int .i64 y)))),(6,.box (qk.c p1)),(7,.box (qk.c c40.1))]) (zy:=8) rfl rfl rfl rfl rfl (GX.m rfl (GX.m rfl (GX.done (WK.sr mixed (GX.m rfl (GX.m rfl (GX.done ?_)))))))))))))
  refine WK.ret ?_
  obtain rfl:=Option.some.inj hR
  exact RetQ.ret [0,1,2,3,4,5] [] (.inr rfl) rfl rfl rfl rfl rfl .refl rfl
 ·rw [hb2]
  obtain ⟨x7,hx1,hd1,hlt1⟩:=drop_more hb2
  rw [hd1,F18l1] at gg1
  refine WK.condT rfl (WK.skip (WK.seq ?_))
  refine WK.blockK (fun _ hK4=>?_)
  refine WK.seq (WK.drawn mixed (RD.m rfl (RD.m rfl (RD.idxT (c:=TEntry.c) (x:=x7) rfl rfl rfl (Int.natCast_nonneg _) hx1 (RD.q (.rptr (TEntry.c x7)) (RD.q (.rptr [.int .i64 x7.P.N,.int .i64 x7.V]) (RD.q (.int .i64 x7.P.N) (RD.q (.ptr 6 1) (RD.q (.int .i64 p1.N) (RD.q (.bool (decide (p1.N < x7.P.N))) (RD.m rfl ?_)))))))))))
  rcases qq (decide (p1.N < x7.P.N)) with hb5 | hb5
  ·rw [hb5]; try simp only [hb5,bb] at gg1
   iterate 8 refine RD.skip rfl rfl ?_
   refine RD.q (.bool false) (RD.done rfl (WK.condF rfl (WK.skip ?_)))
   refine WK.nil (QF.normal (hK4 _ ?_))
   refine WK.regx mixed (GX.m rfl (GX.pure (v':=.int .i64 ((i7 + 1:Nat):Int)) rfl rfl rfl rfl (congrArg (PVal.int .i64) (wrap_up hlt1 ge1)) (GX.m rfl (GX.done ?_))))
   refine WK.nil (QF.normal ?_)
   refine ga1 _ (l2.length - (i7 + 1)) _ (by omega) ?_ ⟨i7 + 1,(by omega),rfl,gg1,rfl⟩
   exact Conv.keep [0,1,2,3,4,5,6] [] [0,2,4,7] rfl rfl (qx rfl rfl (qx rfl rfl (qx rfl rfl (qx rfl rfl qy)))) rfl rfl
  ·rw [hb5]; try simp only [hb5,bb] at gg1
   refine RD.m rfl (RD.m rfl (RD.idxT (c:=TEntry.c) (x:=x7) rfl rfl rfl (Int.natCast_nonneg _) hx1 (RD.q (.rptr (TEntry.c x7)) (RD.q (.agg [.int .u32 x7.P.A,.int .i64 x7.P.N]) (RD.q (.ptr 6 0) (RD.q (.int .u32 p1.A) ?_))))))
   generalize hc34:F9 x7.P p1.A = c34 at gg1
   try dsimp only at gg1
   refine RD.callp (r:=.bool c34) rfl rfl rfl (f9_ok x7.P p1.A _ hc34) rfl rfl (RD.q (.bool c34) (RD.done rfl ?_))
   rcases qq (c34) with hb6 | hb6
   ·rw [hb6]; try simp only [hb6,bb] at gg1
    refine WK.condF rfl (WK.skip ?_)
    refine WK.nil (QF.normal (hK4 _ ?_))
    refine WK.regx mixed (GX.m rfl (GX.pure (v':=.int .i64 ((i7 + 1:Nat):Int)) rfl rfl rfl rfl (congrArg (PVal.int .i64) (wrap_up hlt1 ge1)) (GX.m rfl (GX.done ?_))))
    refine WK.nil (QF.normal ?_)
    refine ga1 _ (l2.length - (i7 + 1)) _ (by omega) ?_ ⟨i7 + 1,(by omega),rfl,gg1,rfl⟩
    exact Conv.keep [0,1,2,3,4,5,6] [] [0,2,4,7] rfl rfl (qx rfl rfl (qx rfl rfl (qx rfl rfl (qx rfl rfl qy)))) rfl rfl
   ·rw [hb6]; try simp only [hb6,bb] at gg1
    refine WK.condT rfl (WK.sr mixed (GX.m rfl (GX.done (WK.ret (QF.ret ?_)))))
    refine QF.ret (hQ_1 _ _ ?_)
    subst gg1
    first | replace hR:=oexc_e hR | replace hR:=oexc_k hR | replace hR:=obind_s hR
    try dsimp only at hR
    obtain rfl:=Option.some.inj hR
    exact RetQ.ret [0,1,2,3,4,5] [] (.inr rfl) rfl rfl rfl rfl rfl .nil rfl
theorem f4_ok (script0:List TAct) (R:Bool) (hR:F4 script0 = some R):FnOk Tryz.prog 4 [.ro 5 (script0.map TAct.c)] [] 0 (.bool R) [] 0:=by
 refine FnOk.wk i4 rfl rfl ?_
 unfold F4 at hR
 try dsimp only at hR
 change WK _ _ _ [ac4] _ ⟨[(0,.ro 5 (script0.map TAct.c))],[],0⟩
 unfold ac4
 refine WK.sr mixed (GX.m rfl (GX.done (WK.sr mixed ?_)))
 generalize hc11:F5 = c11 at hR
 try dsimp only at hR
 refine GX.callx (r':=.ptr 0 0) (zx:=[(5,.mq c11.atf.1 (c11.atf.2.map (encE (fun y=>.int .i64 y)))),(4,.row 3 71 (c11.sets.map TGroup.c)),(3,.row 1 3 (c11.t.free.map c_i64)),(2,.row 6 101 (c11.t.l.map TNode.c)),(1,.box [.own 2 6 0 c11.t.l.length,.own 3 1 0 c11.t.free.length,.int .i64 c11.t.root,.int .i64 c11.t.n]),(0,.box [.ptr 1 0,.own 4 3 0 c11.sets.length,.mapr 5])]) (zy:=6) [] [] rfl rfl rfl rfl rfl rfl (f5_ok  _ hc11) (.inl rfl) rfl rfl rfl (GX.m rfl (GX.done (WK.seq (WK.sr mixed (GX.m rfl (GX.q (.bool false) (GX.done (WK.condF rfl (WK.skip (WK.seq (WK.sr mixed (GX.m rfl (GX.done ?_)))))))))))))
 refine WK.len (t:=0) rfl (by simp) (fun ge72=>?_)
 rw [List.length_map] at ge72
 generalize gi72:F4l7 c11.t.root c11.t.n c11.t.l c11.t.free c11.sets c11.atf 0 script0 = gh72 at hR
 refine WK.forK (fun k s=>∃ (i4:Nat) (box_2_1:Int) (box_3_1:Int) (row2:List TNode) (row3:List Int) (row4:List TGroup) (map5:QMap Int),i4 ≤ script0.length ∧ k = script0.length - i4 ∧ F4l7 box_2_1 box_3_1 row2 row3 row4 map5 i4 (script0.drop i4) = gh72 ∧ s = ⟨[(0,.ro 5 (script0.map TAct.c)),(3,.ptr 0 0),(4,.int .i64 (i4:Int))],[(0,.box [.ptr 1 0,.own 4 3 0 row4.length,.mapr 5]),(1,.box [.own 2 6 0 row2.length,.own 3 1 0 row3.length,.int .i64 box_2_1,.int .i64 box_3_1]),(2,.row 6 101 (row2.map TNode.c)),(3,.row 1 3 (row3.map c_i64)),(4,.row 3 71 (row4.map TGroup.c)),(5,.mq map5.1 (map5.2.map (encE (fun y=>.int .i64 y))))],6⟩) script0.length (by refine ⟨_,?_,0,c11.t.root,c11.t.n,c11.t.l,c11.t.free,c11.sets,c11.atf,(by omega),rfl,gi72,rfl⟩; exact Conv.keep [0,1,2,3,4,5] [] [0,3,4] rfl rfl (qx rfl rfl (qx rfl rfl (qx rfl rfl qy))) rfl rfl) ?_
 rintro _ _ ⟨i4,box_2_1,box_3_1,row2,row3,row4,map5,gj72,rfl,gg72,rfl⟩ gb72 gd72 gk72 ga72 gc72 gf72
 refine WK.seq (WK.sr mixed (GX.m rfl (GX.m rfl (GX.pure (v':=.int .i64 (script0.length:Int)) rfl rfl rfl rfl (zj _ _) (GX.q (.bool (decide ((i4:Int) < (script0.length:Int)))) (GX.m rfl ?_))))))
 rcases qq (decide ((i4:Int) < (script0.length:Int))) with hb73 | hb73
 ·rw [hb73]
  rw [drop_end hb73,F4l7] at gg72
  refine GX.skip rfl rfl (GX.skip rfl rfl (GX.q (.bool false) (GX.done (WK.condF rfl (WK.exit ?_)))))
  refine QF.exit (gc72 _ ?_)
  subst gg72
  replace hR:=obind_s hR; try dsimp only at hR
  refine WK.sr mixed (GX.m rfl ?_)
  obtain ⟨c61,hc61,hR⟩:=zz hR; try dsimp only at hR
  try dsimp only at hR
  refine GX.callx (r':=.ro 3 (c61.map TEntry.c)) (zx:=[(0,.box [.ptr 1 0,.own 4 3 0 row4.length,.mapr 5]),(1,.box [.own 2 6 0 row2.length,.own 3 1 0 row3.length,.int .i64 box_2_1,.int .i64 box_3_1]),(2,.row 6 101 (row2.map TNode.c)),(3,.row 1 3 (row3.map c_i64)),(4,.row 3 71 (row4.map TGroup.c)),(5,.mq map5.1 (map5.2.map (encE (fun y=>.int .i64 y))))]) (zy:=6) [0,1,2,3,4,5] [] rfl rfl rfl rfl rfl rfl (f12_ok (⟨(⟨row2,row3,box_2_1,box_3_1⟩ : TTrie),row4,map5⟩ : TFib) _ hc61) (.inl rfl) rfl rfl rfl (GX.m rfl (GX.done (WK.seq (WK.sr mixed (GX.m rfl ?_)))))
  obtain ⟨c63,hc63,hR⟩:=zz hR; try dsimp only at hR
  try dsimp only at hR
  refine GX.callx (r':=.int .i64 c63) (zx:=[(0,.box [.ptr 1 0,.own 4 3 0 row4.length,.mapr 5]),(1,.box [.own 2 6 0 row2.length,.own 3 1 0 row3.length,.int .i64 box_2_1,.int .i64 box_3_1]),(2,.row 6 101 (row2.map TNode.c)),(3,.row 1 3 (row3.map c_i64)),(4,.row 3 71 (row4.map TGroup.c)),(5,.mq map5.1 (map5.2.map (encE (fun y=>.int .i64 y))))]) (zy:=6) [0,1,2,3,4,5] [] rfl rfl rfl rfl rfl rfl (f17_ok (⟨(⟨row2,row3,box_2_1,box_3_1⟩ : TTrie),row4,map5⟩ : TFib) _ hc63) (.inl rfl) rfl rfl rfl (GX.m rfl (GX.pure (v':=.int .i64 (c61.length:Int)) rfl rfl rfl rfl (zj _ _) (GX.q (.bool (decide ((c61.length:Int) < c63))) (GX.done ?_))))
  rcases qq (decide ((c61.length:Int) < c63)) with hb76 | hb76
  ·rw [hb76]; first | replace hR:=wz hb76 hR | (try simp only [hb76,bb] at hR)
   refine WK.condF rfl (WK.skip (WK.seq (WK.sr mixed (GX.m rfl (GX.done ?_)))))
   refine WK.len (t:=61) rfl (by simp) (fun ge77=>?_)
   rw [List.length_map] at ge77
   generalize gi77:F4l6 box_2_1 box_3_1 row2 row3 row4 map5 c61 0 c61 = gh77 at hR
   refine WK.forK (fun k s=>∃ (i6:Nat),i6 ≤ c61.length ∧ k = c61.length - i6 ∧ F4l6 box_2_1 box_3_1 row2 row3 row4 map5 c61 i6 (c61.drop i6) = gh77 ∧ s = ⟨[(3,.ptr 0 0),(5,.ro 3 (c61.map TEntry.c)),(6,.int .i64 (i6:Int))],[(0,.box [.ptr 1 0,.own 4 3 0 row4.length,.mapr 5]),(1,.box [.own 2 6 0 row2.length,.own 3 1 0 row3.length,.int .i64 box_2_1,.int .i64 box_3_1]),(2,.row 6 101 (row2.map TNode.c)),(3,.row 1 3 (row3.map c_i64)),(4,.row 3 71 (row4.map TGroup.c)),(5,.mq map5.1 (map5.2.map (encE (fun y=>.int .i64 y))))],6⟩) c61.length (by refine ⟨_,?_,0,(by omega),rfl,gi77,rfl⟩; exact Conv.keep [0,1,2,3,4,5] [] [3,5,6] rfl rfl (qx rfl rfl (qx rfl rfl (qx rfl rfl qy))) rfl rfl) ?_
   rintro _ _ ⟨i6,gj77,rfl,gg77,rfl⟩ gb77 gd77 gk77 ga77 gc77 gf77
   refine WK.seq (WK.sr mixed (GX.m rfl (GX.m rfl (GX.pure (v':=.int .i64 (c61.length:Int)) rfl rfl rfl rfl (zj _ _) (GX.q (.bool (decide ((i6:Int) < (c61.length:Int)))) (GX.done ?_))))))
   rcases qq (decide ((i6:Int) < (c61.length:Int))) with hb78 | hb78
   ·rw [hb78]
    rw [drop_end hb78,F4l6] at gg77
    refine WK.condF rfl (WK.exit ?_)
    refine QF.exit (gc77 _ ?_)
    subst gg77
    replace hR:=oexc_k hR; try dsimp only at hR
    refine WK.seq (WK.sr mixed (GX.m rfl (GX.done ?_)))
    refine WK.len (t:=5) rfl (by simp) (fun ge86=>?_)
    rw [List.length_map] at ge86
    generalize gi86:F4l4 box_2_1 box_3_1 row2 row3 row4 map5 c61 = gh86 at hR
    refine WK.forK (fun k s=>∃ (i10:Nat) (box_2_1x:Int) (box_3_1x:Int) (row2x:List TNode) (row3x:List Int) (row4x:List TGroup) (map5x:QMap Int),i10 ≤ c61.length ∧ k = c61.length - i10 ∧ F4l4 box_2_1x box_3_1x row2x row3x row4x map5x (c61.drop i10) = gh86 ∧ s = ⟨[(3,.ptr 0 0),(5,.ro 3 (c61.map TEntry.c)),(10,.int .i64 (i10:Int))],[(0,.box [.ptr 1 0,.own 4 3 0 row4x.length,.mapr 5]),(1,.box [.own 2 6 0 row2x.length,.own 3 1 0 row3x.length,.int .i64 box_2_1x,.int .i64 box_3_1x]),(2,.row 6 101 (row2x.map TNode.c)),(3,.row 1 3 (row3x.map c_i64)),(4,.row 3 71 (row4x.map TGroup.c)),(5,.mq map5x.1 (map5x.2.map (encE (fun y=>.int .i64 y))))],6⟩) c61.length (by refine ⟨_,?_,0,box_2_1,box_3_1,row2,row3,row4,map5,(by omega),rfl,gi86,rfl⟩; exact Conv.keep [0,1,2,3,4,5] [] [3,5,10] rfl rfl (qx rfl rfl (qx rfl rfl (qx rfl rfl qy))) rfl rfl) ?_
    rintro _ _ ⟨i10,box_2_1x,box_3_1x,row2x,row3x,row4x,map5x,gj86,rfl,gg86,rfl⟩ gb86 gd86 gk86 ga86 gc86 gf86
    refine WK.seq (WK.sr mixed (GX.m rfl (GX.m rfl (GX.pure (v':=.int .i64 (c61.length:Int)) rfl rfl rfl rfl (zj _ _) (GX.q (.bool (decide ((i10:Int) < (c61.length:Int)))) (GX.done ?_))))))
    rcases qq (decide ((i10:Int) < (c61.length:Int))) with hb87 | hb87
    ·rw [hb87]
     rw [drop_end hb87,F4l4] at gg86
     refine WK.condF rfl (WK.exit ?_)
     refine QF.exit (gc86 _ ?_)
     subst gg86
     replace hR:=oexc_k hR; try dsimp only at hR
     refine WK.sr mixed ?_
     obtain ⟨c135,hc135,hR⟩:=zz hR; try dsimp only at hR
     try dsimp only at hR
     refine GX.callp (r:=.bool c135) rfl rfl rfl (f7_ok  _ hc135) rfl rfl (GX.m rfl ?_)
     rcases qq (c135) with hb88 | hb88
     ·rw [hb88]; first | replace hR:=wz hb88 hR | (try simp only [hb88,bb] at hR)
      refine GX.skip rfl rfl (GX.skip rfl rfl (GX.skip rfl rfl (GX.q (.bool false) (GX.m rfl ?_))))
      iterate 4 refine GX.skip rfl rfl ?_
      refine GX.q (.bool false) (GX.m rfl (GX.done (WK.ret ?_)))
      obtain rfl:=Option.some.inj hR
      exact RetQ.fr [] (.inr rfl) rfl rfl rfl rfl
     ·rw [hb88]; first | replace hR:=wy hb88 hR | (try simp only [hb88,bb] at hR)
      refine GX.m rfl ?_
      obtain ⟨c138,hc138,hR⟩:=zz hR; try dsimp only at hR
      try dsimp only at hR
      refine GX.callx (r':=.int .i64 c138) (zx:=[(0,.box [.ptr 1 0,.own 4 3 0 row4x.length,.mapr 5]),(1,.box [.own 2 6 0 row2x.length,.own 3 1 0 row3x.length,.int .i64 box_2_1x,.int .i64 box_3_1x]),(2,.row 6 101 (row2x.map TNode.c)),(3,.row 1 3 (row3x.map c_i64)),(4,.row 3 71 (row4x.map TGroup.c)),(5,.mq map5x.1 (map5x.2.map (encE (fun y=>.int .i64 y))))]) (zy:=6) [0,1,2,3,4,5] [] rfl rfl rfl rfl rfl rfl (f17_ok (⟨(⟨row2x,row3x,box_2_1x,box_3_1x⟩ : TTrie),row4x,map5x⟩ : TFib) _ hc138) (.inl rfl) rfl rfl rfl (GX.q (.bool (decide (c138 = 0))) (GX.q (.bool (decide (c138 = 0))) (GX.m rfl ?_)))
      rcases qq (decide (c138 = 0)) with hb90 | hb90
      ·rw [hb90]; first | replace hR:=wz hb90 hR | (try simp only [hb90,bb] at hR)
       iterate 4 refine GX.skip rfl rfl ?_
       refine GX.q (.bool false) (GX.m rfl (GX.done (WK.ret ?_)))
       obtain rfl:=Option.some.inj hR
       exact RetQ.fr [] (.inr rfl) rfl rfl rfl rfl
      ·rw [hb90]; first | replace hR:=wy hb90 hR | (try simp only [hb90,bb] at hR)
       refine GX.m rfl ?_
       obtain ⟨c143,hc143,hR⟩:=zz hR; try dsimp only at hR
       try dsimp only at hR
       refine GX.callx (r':=.ro 3 (c143.map TEntry.c)) (zx:=[(0,.box [.ptr 1 0,.own 4 3 0 row4x.length,.mapr 5]),(1,.box [.own 2 6 0 row2x.length,.own 3 1 0 row3x.length,.int .i64 box_2_1x,.int .i64 box_3_1x]),(2,.row 6 101 (row2x.map TNode.c)),(3,.row 1 3 (row3x.map c_i64)),(4,.row 3 71 (row4x.map TGroup.c)),(5,.mq map5x.1 (map5x.2.map (encE (fun y=>.int .i64 y))))]) (zy:=6) [0,1,2,3,4,5] [] rfl rfl rfl rfl rfl rfl (f12_ok (⟨(⟨row2x,row3x,box_2_1x,box_3_1x⟩ : TTrie),row4x,map5x⟩ : TFib) _ hc143) (.inl rfl) rfl rfl rfl (GX.pure (v':=.int .i64 (c143.length:Int)) rfl rfl rfl rfl (zj _ _) (GX.q (.bool (decide ((c143.length:Int) = 0))) (GX.q (.bool (decide ((c143.length:Int) = 0))) (GX.m rfl (GX.done (WK.ret ?_))))))
       obtain rfl:=Option.some.inj hR
       exact RetQ.fr [] (.inr rfl) rfl rfl rfl rfl
    ·rw [hb87]
     obtain ⟨x10,hx86,hd86,hlt86⟩:=drop_more hb87
     rw [hd86,F4l4] at gg86
     refine WK.condT rfl (WK.skip (WK.seq ?_))
     refine WK.blockK (fun _ hK92=>?_)
     refine WK.sr mixed (GX.m rfl (GX.m rfl (GX.m rfl (GX.idxT (c:=TEntry.c) (x:=x10) rfl rfl rfl (Int.natCast_nonneg _) hx86 (GX.q (.rptr (TEntry.c x10)) (GX.q (.agg [.int .u32 x10.P.A,.int .i64 x10.P.N]) ?_))))))
     rcases zw gg86 with ⟨_,gg86⟩ | ⟨c133,hc133,gg86⟩
     ·subst gg86
      first | replace hR:=zq hR | replace hR:=oexc_n hR
      cases hR
     try dsimp only at gg86
     refine GX.callx (r':=.bool c133.1) (zx:=[(0,.box [.ptr 1 0,.own 8 3 0 c133.2.sets.length,.mapr 5]),(1,.box [.own 6 6 0 c133.2.t.l.length,.own 7 1 0 c133.2.t.free.length,.int .i64 c133.2.t.root,.int .i64 c133.2.t.n]),(5,.mq c133.2.atf.1 (c133.2.atf.2.map (encE (fun y=>.int .i64 y)))),(8,.row 3 71 (c133.2.sets.map TGroup.c)),(7,.row 1 3 (c133.2.t.free.map c_i64)),(6,.row 6 101 (c133.2.t.l.map TNode.c))]) (zy:=9) [0,1,2,3,4,5] [] rfl rfl rfl rfl rfl rfl (f19_ok (⟨(⟨row2x,row3x,box_2_1x,box_3_1x⟩ : TTrie),row4x,map5x⟩ : TFib) x10.P _ hc133) (.inl rfl) rfl rfl rfl (GX.q (.bool (!c133.1)) (GX.done ?_))
     rcases qq (c133.1) with hb94 | hb94
     ·rw [hb94]; try simp only [hb94,bb] at gg86
      refine WK.condT rfl (WK.sr mixed (GX.m rfl (GX.done (WK.ret (QF.ret ?_)))))
      refine QF.ret (gf86 _ _ ?_)
      subst gg86
      first | replace hR:=oexc_e hR | replace hR:=oexc_k hR | replace hR:=obind_s hR
      try dsimp only at hR
      obtain rfl:=Option.some.inj hR
      exact RetQ.fr [] (.inr rfl) rfl rfl rfl rfl
     ·rw [hb94]; try simp only [hb94,bb] at gg86
      refine WK.condF rfl (WK.skip ?_)
      refine WK.nil (QF.normal (hK92 _ ?_))
      refine WK.regx mixed (GX.m rfl (GX.pure (v':=.int .i64 ((i10 + 1:Nat):Int)) rfl rfl rfl rfl (congrArg (PVal.int .i64) (wrap_up hlt86 ge86)) (GX.m rfl (GX.done ?_))))
      refine WK.nil (QF.normal ?_)
      refine ga86 _ (c61.length - (i10 + 1)) _ (by omega) ?_ ⟨i10 + 1,c133.2.t.root,c133.2.t.n,c133.2.t.l,c133.2.t.free,c133.2.sets,c133.2.atf,(by omega),rfl,gg86,rfl⟩
      exact Conv.keep [0,1,6,7,8,5] [] [3,5,10] rfl rfl (qx rfl rfl (qx rfl rfl (qx rfl rfl qy))) rfl rfl
   ·rw [hb78]
    obtain ⟨x6,hx77,hd77,hlt77⟩:=drop_more hb78
    rw [hd77,F4l6] at gg77
    refine WK.condT rfl (WK.skip (WK.seq ?_))
    refine WK.blockK (fun _ hK95=>?_)
    refine WK.sr mixed (GX.m rfl (GX.done ?_))
    generalize gi96:F4l5 box_2_1 box_3_1 row2 row3 row4 map5 c61 i6 x6 (fuelUp 0 (i6:Int)) 0 = gh96 at gg77
    refine WK.forK (fun k s=>∃ (i7:Int),fuelUp i7 (i6:Int) ≤ k ∧ 0 ≤ i7 ∧ F4l5 box_2_1 box_3_1 row2 row3 row4 map5 c61 i6 x6 k i7 = gh96 ∧ s = ⟨[(3,.ptr 0 0),(5,.ro 3 (c61.map TEntry.c)),(6,.int .i64 (i6:Int)),(7,.int .i64 i7)],[(0,.box [.ptr 1 0,.own 4 3 0 row4.length,.mapr 5]),(1,.box [.own 2 6 0 row2.length,.own 3 1 0 row3.length,.int .i64 box_2_1,.int .i64 box_3_1]),(2,.row 6 101 (row2.map TNode.c)),(3,.row 1 3 (row3.map c_i64)),(4,.row 3 71 (row4.map TGroup.c)),(5,.mq map5.1 (map5.2.map (encE (fun y=>.int .i64 y))))],6⟩) (fuelUp 0 (i6:Int)) (by refine ⟨_,?_,0,Nat.le_refl _,(by omega),gi96,rfl⟩; exact Conv.keep [0,1,2,3,4,5] [] [3,5,6,7] rfl rfl (qx rfl rfl (qx rfl rfl (qx rfl rfl (qx rfl rfl qy)))) rfl rfl) ?_
    rintro k96 _ ⟨i7,hfu96,hinv96_c0,gg96,rfl⟩ gb96 gd96 gk96 ga96 gc96 gf96
    refine WK.seq (WK.sr mixed (GX.m rfl (GX.m rfl (GX.q (.bool (decide (i7 < (i6:Int)))) (GX.done ?_)))))
    rcases qq (decide (i7 < (i6:Int))) with hb97 | hb97
    ·rw [hb97]
     rw [F4l5_u,hb97,cond_false] at gg96
     refine WK.condF rfl (WK.exit ?_)
     refine QF.exit (gc96 _ ?_)
     subst gg96
     replace gg77:=oexc_k gg77; try dsimp only at gg77
     refine WK.nil (QF.normal (hK95 _ ?_))
     refine WK.regx mixed (GX.m rfl (GX.pure (v':=.int .i64 ((i6 + 1:Nat):Int)) rfl rfl rfl rfl (congrArg (PVal.int .i64) (wrap_up hlt77 ge77)) (GX.m rfl (GX.done ?_))))
     refine WK.nil (QF.normal ?_)
     refine ga77 _ (c61.length - (i6 + 1)) _ (by omega) ?_ ⟨i6 + 1,(by omega),rfl,gg77,rfl⟩
     exact Conv.keep [0,1,2,3,4,5] [] [3,5,6] rfl rfl (qx rfl rfl (qx rfl rfl (qx rfl rfl qy))) rfl rfl
    ·rw [hb97]
     obtain ⟨f96,rfl⟩:=fuel_pos hb97 hfu96
     rw [F4l5_u,hb97,cond_true] at gg96; dsimp only at gg96
     refine WK.condT rfl (WK.skip (WK.seq ?_))
     refine WK.blockK (fun _ hK98=>?_)
     refine WK.seq (WK.drawn mixed (RD.m rfl (RD.m rfl (RD.m rfl (RD.idxT (c:=TEntry.c) (x:=x6) rfl rfl rfl (Int.natCast_nonneg _) hx77 (RD.q (.rptr (TEntry.c x6)) (RD.q (.agg [.int .u32 x6.P.A,.int .i64 x6.P.N]) (RD.m rfl ?_))))))))
     rcases zw gg96 with ⟨_,gg96⟩ | ⟨c85,hc85,gg96⟩
     ·subst gg96
      first | replace gg77:=zq gg77 | replace gg77:=oexc_n gg77
      subst gg77
      first | replace hR:=zq hR | replace hR:=oexc_n hR
      cases hR
     try dsimp only at gg96
     try dsimp only at gg96
     refine RD.callx (r':=.ro 2 (c85.map THop.c)) (zx:=[(0,.box [.ptr 1 0,.own 4 3 0 row4.length,.mapr 5]),(1,.box [.own 2 6 0 row2.length,.own 3 1 0 row3.length,.int .i64 box_2_1,.int .i64 box_3_1]),(2,.row 6 101 (row2.map TNode.c)),(3,.row 1 3 (row3.map c_i64)),(4,.row 3 71 (row4.map TGroup.c)),(5,.mq map5.1 (map5.2.map (encE (fun y=>.int .i64 y))))]) (zy:=6) [0,1,2,3,4,5] [] rfl rfl rfl rfl rfl rfl (f18_ok (⟨(⟨row2,row3,box_2_1,box_3_1⟩ : TTrie),row4,map5⟩ : TFib) x6.P c61 _ hc85) (.inl rfl) rfl rfl rfl (RD.m rfl (RD.m rfl (RD.m rfl ?_)))
     rcases zw gg96 with ⟨_,gg96⟩ | ⟨x999,hx999,gg96⟩
     ·subst gg96
      first | replace gg77:=zq gg77 | replace gg77:=oexc_n gg77
      subst gg77
      first | replace hR:=zq hR | replace hR:=oexc_n hR
      cases hR
     try dsimp only at gg96
     obtain ⟨hx9990,hx999j,hx999l,hx999⟩:=zk hx999
     refine RD.idxT (c:=TEntry.c) (x:=x999) rfl rfl rfl hx9990 hx999 (RD.q (.rptr (TEntry.c x999)) (RD.q (.agg [.int .u32 x999.P.A,.int .i64 x999.P.N]) (RD.m rfl ?_)))
     rcases zw gg96 with ⟨_,gg96⟩ | ⟨c93,hc93,gg96⟩
     ·subst gg96
      first | replace gg77:=zq gg77 | replace gg77:=oexc_n gg77
      subst gg77
      first | replace hR:=zq hR | replace hR:=oexc_n hR
      cases hR
     try dsimp only at gg96
     try dsimp only at gg96
     refine RD.callx (r':=.ro 2 (c93.map THop.c)) (zx:=[(0,.box [.ptr 1 0,.own 4 3 0 row4.length,.mapr 5]),(1,.box [.own 2 6 0 row2.length,.own 3 1 0 row3.length,.int .i64 box_2_1,.int .i64 box_3_1]),(2,.row 6 101 (row2.map TNode.c)),(3,.row 1 3 (row3.map c_i64)),(4,.row 3 71 (row4.map TGroup.c)),(5,.mq map5.1 (map5.2.map (encE (fun y=>.int .i64 y))))]) (zy:=6) [0,1,2,3,4,5] [] rfl rfl rfl rfl rfl rfl (f18_ok (⟨(⟨row2,row3,box_2_1,box_3_1⟩ : TTrie),row4,map5⟩ : TFib) x999.P c61 _ hc93) (.inl rfl) rfl rfl rfl (RD.m rfl (RD.m rfl (RD.done rfl (WK.seq (WK.drawn mixed (RD.m rfl (RD.pure (v':=.int .i64 (c85.length:Int)) rfl rfl rfl rfl (zj _ _) (RD.q (.bool (decide (0 < (c85.length:Int)))) (RD.m rfl ?_)))))))))
     rcases qq (decide (0 < (c85.length:Int))) with hb102 | hb102
     ·rw [hb102]; try simp only [hb102,bb] at gg96
      refine RD.skip rfl rfl (RD.skip rfl rfl (RD.skip rfl rfl (RD.q (.bool false) (RD.m rfl ?_))))
      iterate 17 refine RD.skip rfl rfl ?_
      refine RD.q (.bool false) (RD.doneB [0,1,3,7,15,31,63,127,255,511,511,2047,4095,8191,511,511,49663,115199,246271,524287,511,1049087,511,7340543,15729151,33554431,67108863] (by kernel_rfl) (by kernel_rfl) (by kernel_rfl) (WK.condF rfl (WK.skip ?_)))
      refine WK.nil (QF.normal (hK98 _ ?_))
      refine WK.regx mixed (GX.m rfl (GX.q (.int .i64 (IntKind.i64.wrap (i7 + 1))) (GX.m rfl (GX.done ?_))))
      refine WK.nil (QF.normal ?_)
      refine ga96 _ f96 _ (Nat.lt_succ_self _) ?_ ⟨(IntKind.i64.wrap (i7 + 1)),fuel_up hb97 (by omega) hfu96,(by ((try simp only [List.length_append,List.length_cons,List.length_nil,decide_eq_true_eq,decide_eq_false_iff_not] at *) <;> first | omega | (rw [wrap64_of (by omega) (by omega)]; omega))),gg96,rfl⟩
      exact Conv.keep [0,1,2,3,4,5] [] [3,5,6,7] rfl rfl (qx rfl rfl (qx rfl rfl (qx rfl rfl (qx rfl rfl qy)))) rfl rfl
     ·rw [hb102]; try simp only [hb102,bb] at gg96
      refine RD.m rfl (RD.pure (v':=.int .i64 (c93.length:Int)) rfl rfl rfl rfl (zj _ _) (RD.q (.bool (decide (0 < (c93.length:Int)))) (RD.q (.bool (decide (0 < (c93.length:Int)))) (RD.m rfl ?_))))
      rcases qq (decide (0 < (c93.length:Int))) with hb103 | hb103
      ·rw [hb103]; try simp only [hb103,bb] at gg96
       iterate 17 refine RD.skip rfl rfl ?_
       refine RD.q (.bool false) (RD.doneB [0,1,3,7,15,31,63,127,255,511,511,2047,4095,8191,511,511,49663,115199,246271,524287,511,1049087,511,7340543,15729151,33554431,67108863] (by kernel_rfl) (by kernel_rfl) (by kernel_rfl) (WK.condF rfl (WK.skip ?_)))
       refine WK.nil (QF.normal (hK98 _ ?_))
       refine WK.regx mixed (GX.m rfl (GX.q (.int .i64 (IntKind.i64.wrap (i7 + 1))) (GX.m rfl (GX.done ?_))))
       refine WK.nil (QF.normal ?_)
       refine ga96 _ f96 _ (Nat.lt_succ_self _) ?_ ⟨(IntKind.i64.wrap (i7 + 1)),fuel_up hb97 (by omega) hfu96,(by ((try simp only [List.length_append,List.length_cons,List.length_nil,decide_eq_true_eq,decide_eq_false_iff_not] at *) <;> first | omega | (rw [wrap64_of (by omega) (by omega)]; omega))),gg96,rfl⟩
       exact Conv.keep [0,1,2,3,4,5] [] [3,5,6,7] rfl rfl (qx rfl rfl (qx rfl rfl (qx rfl rfl (qx rfl rfl qy)))) rfl rfl
      ·rw [hb103]; try simp only [hb103,bb] at gg96
       refine RD.m rfl (RD.m rfl (RD.idxT (c:=TEntry.c) (x:=x6) rfl rfl rfl (Int.natCast_nonneg _) hx77 (RD.q (.rptr [.int .i64 x6.V]) (RD.q (.int .i64 x6.V) (RD.m rfl (RD.m rfl (RD.idxT (c:=TEntry.c) (x:=x999) rfl rfl rfl hx9990 hx999 (RD.q (.rptr [.int .i64 x999.V]) (RD.q (.int .i64 x999.V) (RD.q (.bool (decide (x6.V = x999.V))) (RD.m rfl ?_)))))))))))
       rcases zw gg96 with ⟨_,gg96⟩ | ⟨c115,hc115,gg96⟩
       ·subst gg96
        first | replace gg77:=zq gg77 | replace gg77:=oexc_n gg77
        subst gg77
        first | replace hR:=zq hR | replace hR:=oexc_n hR
        cases hR
       try dsimp only at gg96
       try dsimp only at gg96
       refine RD.callp (r:=.ro 2 (c115.map THop.c)) rfl rfl rfl (f14_ok c85 _ hc115) rfl rfl (RD.m rfl ?_)
       rcases zw gg96 with ⟨_,gg96⟩ | ⟨c117,hc117,gg96⟩
       ·subst gg96
        first | replace gg77:=zq gg77 | replace gg77:=oexc_n gg77
        subst gg77
        first | replace hR:=zq hR | replace hR:=oexc_n hR
        cases hR
       try dsimp only at gg96
       try dsimp only at gg96
       refine RD.callp (r:=.ro 2 (c117.map THop.c)) rfl rfl rfl (f14_ok c93 _ hc117) rfl rfl ?_
       rcases zw gg96 with ⟨_,gg96⟩ | ⟨c118,hc118,gg96⟩
       ·subst gg96
        first | replace gg77:=zq gg77 | replace gg77:=oexc_n gg77
        subst gg77
        first | replace hR:=zq hR | replace hR:=oexc_n hR
        cases hR
       try dsimp only at gg96
       try dsimp only at gg96
       refine RD.callp (r:=.bool c118) rfl rfl rfl (f13_ok c115 c117 _ hc118) rfl rfl ?_
       iterate 2 refine RD.q (.bool (!((decide (x6.V = x999.V)) == c118))) ?_
       refine RD.doneB [0,1,3,7,15,31,63,127,255,511,511,2047,4095,8191,511,511,49663,115199,246271,524287,511,1049087,511,7340543,15729151,33554431,67108863] (by kernel_rfl) (by kernel_rfl) (by kernel_rfl) ?_
       rcases qq ((decide (x6.V = x999.V)) == c118) with hb104 | hb104
       ·rw [hb104]; try simp only [hb104,bb] at gg96
        refine WK.condT rfl (WK.sr mixed (GX.m rfl (GX.done (WK.ret (QF.ret ?_)))))
        refine QF.ret (gf96 _ _ ?_)
        refine QF.ret ?_
        refine QF.ret (gf77 _ _ ?_)
        subst gg96
        first | replace gg77:=oexc_e gg77 | replace gg77:=oexc_k gg77 | replace gg77:=obind_s gg77
        try dsimp only at gg77
        subst gg77
        first | replace hR:=oexc_e hR | replace hR:=oexc_k hR | replace hR:=obind_s hR
        try dsimp only at hR
        obtain rfl:=Option.some.inj hR
        exact RetQ.fr [] (.inr rfl) rfl rfl rfl rfl
       ·rw [hb104]; try simp only [hb104,bb] at gg96
        refine WK.condF rfl (WK.skip ?_)
        refine WK.nil (QF.normal (hK98 _ ?_))
        refine WK.regx mixed (GX.m rfl (GX.q (.int .i64 (IntKind.i64.wrap (i7 + 1))) (GX.m rfl (GX.done ?_))))
        refine WK.nil (QF.normal ?_)
        refine ga96 _ f96 _ (Nat.lt_succ_self _) ?_ ⟨(IntKind.i64.wrap (i7 + 1)),fuel_up hb97 (by omega) hfu96,(by ((try simp only [List.length_append,List.length_cons,List.length_nil,decide_eq_true_eq,decide_eq_false_iff_not] at *) <;> first | omega | (rw [wrap64_of (by omega) (by omega)]; omega))),gg96,rfl⟩
        exact Conv.keep [0,1,2,3,4,5] [] [3,5,6,7] rfl rfl (qx rfl rfl (qx rfl rfl (qx rfl rfl (qx rfl rfl qy)))) rfl rfl
  ·rw [hb76]; first | replace hR:=wy hb76 hR | (try simp only [hb76,bb] at hR)
   refine WK.condT rfl (WK.sr mixed (GX.m rfl (GX.done (WK.ret ?_))))
   obtain rfl:=Option.some.inj hR
   exact RetQ.fr [] (.inr rfl) rfl rfl rfl rfl
 ·rw [hb73]
  obtain ⟨x4,hx72,hd72,hlt72⟩:=drop_more hb73
  rw [hd72,F4l7] at gg72
  refine GX.m rfl ?_
  iterate 2 refine GX.q (.bool (decide ((i4:Int) < 60))) ?_
  refine GX.done ?_
  rcases qq (decide ((i4:Int) < 60)) with hb105 | hb105
  ·rw [hb105]; try simp only [hb105,bb] at gg72
   refine WK.condF rfl (WK.exit ?_)
   refine QF.exit (gc72 _ ?_)
   subst gg72
   replace hR:=obind_s hR; try dsimp only at hR
   refine WK.sr mixed (GX.m rfl ?_)
   obtain ⟨c61,hc61,hR⟩:=zz hR; try dsimp only at hR
   try dsimp only at hR
   refine GX.callx (r':=.ro 3 (c61.map TEntry.c)) (zx:=[(0,.box [.ptr 1 0,.own 4 3 0 row4.length,.mapr 5]),(1,.box [.own 2 6 0 row2.length,.own 3 1 0 row3.length,.int .i64 box_2_1,.int .i64 box_3_1]),(2,.row 6 101 (row2.map TNode.c)),(3,.row 1 3 (row3.map c_i64)),(4,.row 3 71 (row4.map TGroup.c)),(5,.mq map5.1 (map5.2.map (encE (fun y=>.int .i64 y))))]) (zy:=6) [0,1,2,3,4,5] [] rfl rfl rfl rfl rfl rfl (f12_ok (⟨(⟨row2,row3,box_2_1,box_3_1⟩ : TTrie),row4,map5⟩ : TFib) _ hc61) (.inl rfl) rfl rfl rfl (GX.m rfl (GX.done (WK.seq (WK.sr mixed (GX.m rfl ?_)))))
   obtain ⟨c63,hc63,hR⟩:=zz hR; try dsimp only at hR
   try dsimp only at hR
   refine GX.callx (r':=.int .i64 c63) (zx:=[(0,.box [.ptr 1 0,.own 4 3 0 row4.length,.mapr 5]),(1,.box [.own 2 6 0 row2.length,.own 3 1 0 row3.length,.int .i64 box_2_1,.int .i64 box_3_1]),(2,.row 6 101 (row2.map TNode.c)),(3,.row 1 3 (row3.map c_i64)),(4,.row 3 71 (row4.map TGroup.c)),(5,.mq map5.1 (map5.2.map (encE (fun y=>.int .i64 y))))]) (zy:=6) [0,1,2,3,4,5] [] rfl rfl rfl rfl rfl rfl (f17_ok (⟨(⟨row2,row3,box_2_1,box_3_1⟩ : TTrie),row4,map5⟩ : TFib) _ hc63) (.inl rfl) rfl rfl rfl (GX.m rfl (GX.pure (v':=.int .i64 (c61.length:Int)) rfl rfl rfl rfl (zj _ _) (GX.q (.bool (decide ((c61.length:Int) < c63))) (GX.done ?_))))
   rcases qq (decide ((c61.length:Int) < c63)) with hb108 | hb108
   ·rw [hb108]; first | replace hR:=wz hb108 hR | (try simp only [hb108,bb] at hR)
    refine WK.condF rfl (WK.skip (WK.seq (WK.sr mixed (GX.m rfl (GX.done ?_)))))
    refine WK.len (t:=61) rfl (by simp) (fun ge109=>?_)
    rw [List.length_map] at ge109
    generalize gi109:F4l6 box_2_1 box_3_1 row2 row3 row4 map5 c61 0 c61 = gh109 at hR
    refine WK.forK (fun k s=>∃ (i6:Nat),i6 ≤ c61.length ∧ k = c61.length - i6 ∧ F4l6 box_2_1 box_3_1 row2 row3 row4 map5 c61 i6 (c61.drop i6) = gh109 ∧ s = ⟨[(3,.ptr 0 0),(5,.ro 3 (c61.map TEntry.c)),(6,.int .i64 (i6:Int))],[(0,.box [.ptr 1 0,.own 4 3 0 row4.length,.mapr 5]),(1,.box [.own 2 6 0 row2.length,.own 3 1 0 row3.length,.int .i64 box_2_1,.int .i64 box_3_1]),(2,.row 6 101 (row2.map TNode.c)),(3,.row 1 3 (row3.map c_i64)),(4,.row 3 71 (row4.map TGroup.c)),(5,.mq map5.1 (map5.2.map (encE (fun y=>.int .i64 y))))],6⟩) c61.length (by refine ⟨_,?_,0,(by omega),rfl,gi109,rfl⟩; exact Conv.keep [0,1,2,3,4,5] [] [3,5,6] rfl rfl (qx rfl rfl (qx rfl rfl (qx rfl rfl qy))) rfl rfl) ?_
    rintro _ _ ⟨i6,gj109,rfl,gg109,rfl⟩ gb109 gd109 gk109 ga109 gc109 gf109
    refine WK.seq (WK.sr mixed (GX.m rfl (GX.m rfl (GX.pure (v':=.int .i64 (c61.length:Int)) rfl rfl rfl rfl (zj _ _) (GX.q (.bool (decide ((i6:Int) < (c61.length:Int)))) (GX.done ?_))))))
    rcases qq (decide ((i6:Int) < (c61.length:Int))) with hb110 | hb110
    ·rw [hb110]
     rw [drop_end hb110,F4l6] at gg109
     refine WK.condF rfl (WK.exit ?_)
     refine QF.exit (gc109 _ ?_)
     subst gg109
     replace hR:=oexc_k hR; try dsimp only at hR
     refine WK.seq (WK.sr mixed (GX.m rfl (GX.done ?_)))
     refine WK.len (t:=5) rfl (by simp) (fun ge118=>?_)
     rw [List.length_map] at ge118
     generalize gi118:F4l4 box_2_1 box_3_1 row2 row3 row4 map5 c61 = gh118 at hR
     refine WK.forK (fun k s=>∃ (i10:Nat) (box_2_1x:Int) (box_3_1x:Int) (row2x:List TNode) (row3x:List Int) (row4x:List TGroup) (map5x:QMap Int),i10 ≤ c61.length ∧ k = c61.length - i10 ∧ F4l4 box_2_1x box_3_1x row2x row3x row4x map5x (c61.drop i10) = gh118 ∧ s = ⟨[(3,.ptr 0 0),(5,.ro 3 (c61.map TEntry.c)),(10,.int .i64 (i10:Int))],[(0,.box [.ptr 1 0,.own 4 3 0 row4x.length,.mapr 5]),(1,.box [.own 2 6 0 row2x.length,.own 3 1 0 row3x.length,.int .i64 box_2_1x,.int .i64 box_3_1x]),(2,.row 6 101 (row2x.map TNode.c)),(3,.row 1 3 (row3x.map c_i64)),(4,.row 3 71 (row4x.map TGroup.c)),(5,.mq map5x.1 (map5x.2.map (encE (fun y=>.int .i64 y))))],6⟩) c61.length (by refine ⟨_,?_,0,box_2_1,box_3_1,row2,row3,row4,map5,(by omega),rfl,gi118,rfl⟩; exact Conv.keep [0,1,2,3,4,5] [] [3,5,10] rfl rfl (qx rfl rfl (qx rfl rfl (qx rfl rfl qy))) rfl rfl) ?_
     rintro _ _ ⟨i10,box_2_1x,box_3_1x,row2x,row3x,row4x,map5x,gj118,rfl,gg118,rfl⟩ gb118 gd118 gk118 ga118 gc118 gf118
     refine WK.seq (WK.sr mixed (GX.m rfl (GX.m rfl (GX.pure (v':=.int .i64 (c61.length:Int)) rfl rfl rfl rfl (zj _ _) (GX.q (.bool (decide ((i10:Int) < (c61.length:Int)))) (GX.done ?_))))))
     rcases qq (decide ((i10:Int) < (c61.length:Int))) with hb119 | hb119
     ·rw [hb119]
      rw [drop_end hb119,F4l4] at gg118
      refine WK.condF rfl (WK.exit ?_)
      refine QF.exit (gc118 _ ?_)
      subst gg118
      replace hR:=oexc_k hR; try dsimp only at hR
      refine WK.sr mixed ?_
      obtain ⟨c135,hc135,hR⟩:=zz hR; try dsimp only at hR
      try dsimp only at hR
      refine GX.callp (r:=.bool c135) rfl rfl rfl (f7_ok  _ hc135) rfl rfl (GX.m rfl ?_)
      rcases qq (c135) with hb120 | hb120
      ·rw [hb120]; first | replace hR:=wz hb120 hR | (try simp only [hb120,bb] at hR)
       refine GX.skip rfl rfl (GX.skip rfl rfl (GX.skip rfl rfl (GX.q (.bool false) (GX.m rfl ?_))))
       iterate 4 refine GX.skip rfl rfl ?_
       refine GX.q (.bool false) (GX.m rfl (GX.done (WK.ret ?_)))
       obtain rfl:=Option.some.inj hR
       exact RetQ.fr [] (.inr rfl) rfl rfl rfl rfl
      ·rw [hb120]; first | replace hR:=wy hb120 hR | (try simp only [hb120,bb] at hR)
       refine GX.m rfl ?_
       obtain ⟨c138,hc138,hR⟩:=zz hR; try dsimp only at hR
       try dsimp only at hR
       refine GX.callx (r':=.int .i64 c138) (zx:=[(0,.box [.ptr 1 0,.own 4 3 0 row4x.length,.mapr 5]),(1,.box [.own 2 6 0 row2x.length,.own 3 1 0 row3x.length,.int .i64 box_2_1x,.int .i64 box_3_1x]),(2,.row 6 101 (row2x.map TNode.c)),(3,.row 1 3 (row3x.map c_i64)),(4,.row 3 71 (row4x.map TGroup.c)),(5,.mq map5x.1 (map5x.2.map (encE (fun y=>.int .i64 y))))]) (zy:=6) [0,1,2,3,4,5] [] rfl rfl rfl rfl rfl rfl (f17_ok (⟨(⟨row2x,row3x,box_2_1x,box_3_1x⟩ : TTrie),row4x,map5x⟩ : TFib) _ hc138) (.inl rfl) rfl rfl rfl (GX.q (.bool (decide (c138 = 0))) (GX.q (.bool (decide (c138 = 0))) (GX.m rfl ?_)))
       rcases qq (decide (c138 = 0)) with hb122 | hb122
       ·rw [hb122]; first | replace hR:=wz hb122 hR | (try simp only [hb122,bb] at hR)
        iterate 4 refine GX.skip rfl rfl ?_
        refine GX.q (.bool false) (GX.m rfl (GX.done (WK.ret ?_)))
        obtain rfl:=Option.some.inj hR
        exact RetQ.fr [] (.inr rfl) rfl rfl rfl rfl
       ·rw [hb122]; first | replace hR:=wy hb122 hR | (try simp only [hb122,bb] at hR)
        refine GX.m rfl ?_
        obtain ⟨c143,hc143,hR⟩:=zz hR; try dsimp only at hR
        try dsimp only at hR
        refine GX.callx (r':=.ro 3 (c143.map TEntry.c)) (zx:=[(0,.box [.ptr 1 0,.own 4 3 0 row4x.length,.mapr 5]),(1,.box [.own 2 6 0 row2x.length,.own 3 1 0 row3x.length,.int .i64 box_2_1x,.int .i64 box_3_1x]),(2,.row 6 101 (row2x.map TNode.c)),(3,.row 1 3 (row3x.map c_i64)),(4,.row 3 71 (row4x.map TGroup.c)),(5,.mq map5x.1 (map5x.2.map (encE (fun y=>.int .i64 y))))]) (zy:=6) [0,1,2,3,4,5] [] rfl rfl rfl rfl rfl rfl (f12_ok (⟨(⟨row2x,row3x,box_2_1x,box_3_1x⟩ : TTrie),row4x,map5x⟩ : TFib) _ hc143) (.inl rfl) rfl rfl rfl (GX.pure (v':=.int .i64 (c143.length:Int)) rfl rfl rfl rfl (zj _ _) (GX.q (.bool (decide ((c143.length:Int) = 0))) (GX.q (.bool (decide ((c143.length:Int) = 0))) (GX.m rfl (GX.done (WK.ret ?_))))))
        obtain rfl:=Option.some.inj hR
        exact RetQ.fr [] (.inr rfl) rfl rfl rfl rfl
     ·rw [hb119]
      obtain ⟨x10,hx118,hd118,hlt118⟩:=drop_more hb119
      rw [hd118,F4l4] at gg118
      refine WK.condT rfl (WK.skip (WK.seq ?_))
      refine WK.blockK (fun _ hK124=>?_)
      refine WK.sr mixed (GX.m rfl (GX.m rfl (GX.m rfl (GX.idxT (c:=TEntry.c) (x:=x10) rfl rfl rfl (Int.natCast_nonneg _) hx118 (GX.q (.rptr (TEntry.c x10)) (GX.q (.agg [.int .u32 x10.P.A,.int .i64 x10.P.N]) ?_))))))
      rcases zw gg118 with ⟨_,gg118⟩ | ⟨c133,hc133,gg118⟩
      ·subst gg118
       first | replace hR:=zq hR | replace hR:=oexc_n hR
       cases hR
      try dsimp only at gg118
      refine GX.callx (r':=.bool c133.1) (zx:=[(0,.box [.ptr 1 0,.own 8 3 0 c133.2.sets.length,.mapr 5]),(1,.box [.own 6 6 0 c133.2.t.l.length,.own 7 1 0 c133.2.t.free.length,.int .i64 c133.2.t.root,.int .i64 c133.2.t.n]),(5,.mq c133.2.atf.1 (c133.2.atf.2.map (encE (fun y=>.int .i64 y)))),(8,.row 3 71 (c133.2.sets.map TGroup.c)),(7,.row 1 3 (c133.2.t.free.map c_i64)),(6,.row 6 101 (c133.2.t.l.map TNode.c))]) (zy:=9) [0,1,2,3,4,5] [] rfl rfl rfl rfl rfl rfl (f19_ok (⟨(⟨row2x,row3x,box_2_1x,box_3_1x⟩ : TTrie),row4x,map5x⟩ : TFib) x10.P _ hc133) (.inl rfl) rfl rfl rfl (GX.q (.bool (!c133.1)) (GX.done ?_))
      rcases qq (c133.1) with hb126 | hb126
      ·rw [hb126]; try simp only [hb126,bb] at gg118
       refine WK.condT rfl (WK.sr mixed (GX.m rfl (GX.done (WK.ret (QF.ret ?_)))))
       refine QF.ret (gf118 _ _ ?_)
       subst gg118
       first | replace hR:=oexc_e hR | replace hR:=oexc_k hR | replace hR:=obind_s hR
       try dsimp only at hR
       obtain rfl:=Option.some.inj hR
       exact RetQ.fr [] (.inr rfl) rfl rfl rfl rfl
      ·rw [hb126]; try simp only [hb126,bb] at gg118
       refine WK.condF rfl (WK.skip ?_)
       refine WK.nil (QF.normal (hK124 _ ?_))
       refine WK.regx mixed (GX.m rfl (GX.pure (v':=.int .i64 ((i10 + 1:Nat):Int)) rfl rfl rfl rfl (congrArg (PVal.int .i64) (wrap_up hlt118 ge118)) (GX.m rfl (GX.done ?_))))
       refine WK.nil (QF.normal ?_)
       refine ga118 _ (c61.length - (i10 + 1)) _ (by omega) ?_ ⟨i10 + 1,c133.2.t.root,c133.2.t.n,c133.2.t.l,c133.2.t.free,c133.2.sets,c133.2.atf,(by omega),rfl,gg118,rfl⟩
       exact Conv.keep [0,1,6,7,8,5] [] [3,5,10] rfl rfl (qx rfl rfl (qx rfl rfl (qx rfl rfl qy))) rfl rfl
    ·rw [hb110]
     obtain ⟨x6,hx109,hd109,hlt109⟩:=drop_more hb110
     rw [hd109,F4l6] at gg109
     refine WK.condT rfl (WK.skip (WK.seq ?_))
     refine WK.blockK (fun _ hK127=>?_)
     refine WK.sr mixed (GX.m rfl (GX.done ?_))
     generalize gi128:F4l5 box_2_1 box_3_1 row2 row3 row4 map5 c61 i6 x6 (fuelUp 0 (i6:Int)) 0 = gh128 at gg109
     refine WK.forK (fun k s=>∃ (i7:Int),fuelUp i7 (i6:Int) ≤ k ∧ 0 ≤ i7 ∧ F4l5 box_2_1 box_3_1 row2 row3 row4 map5 c61 i6 x6 k i7 = gh128 ∧ s = ⟨[(3,.ptr 0 0),(5,.ro 3 (c61.map TEntry.c)),(6,.int .i64 (i6:Int)),(7,.int .i64 i7)],[(0,.box [.ptr 1 0,.own 4 3 0 row4.length,.mapr 5]),(1,.box [.own 2 6 0 row2.length,.own 3 1 0 row3.length,.int .i64 box_2_1,.int .i64 box_3_1]),(2,.row 6 101 (row2.map TNode.c)),(3,.row 1 3 (row3.map c_i64)),(4,.row 3 71 (row4.map TGroup.c)),(5,.mq map5.1 (map5.2.map (encE (fun y=>.int .i64 y))))],6⟩) (fuelUp 0 (i6:Int)) (by refine ⟨_,?_,0,Nat.le_refl _,(by omega),gi128,rfl⟩; exact Conv.keep [0,1,2,3,4,5] [] [3,5,6,7] rfl rfl (qx rfl rfl (qx rfl rfl (qx rfl rfl (qx rfl rfl qy)))) rfl rfl) ?_
     rintro k128 _ ⟨i7,hfu128,hinv128_c0,gg128,rfl⟩ gb128 gd128 gk128 ga128 gc128 gf128
     refine WK.seq (WK.sr mixed (GX.m rfl (GX.m rfl (GX.q (.bool (decide (i7 < (i6:Int)))) (GX.done ?_)))))
     rcases qq (decide (i7 < (i6:Int))) with hb129 | hb129
     ·rw [hb129]
      rw [F4l5_u,hb129,cond_false] at gg128
      refine WK.condF rfl (WK.exit ?_)
      refine QF.exit (gc128 _ ?_)
      subst gg128
      replace gg109:=oexc_k gg109; try dsimp only at gg109
      refine WK.nil (QF.normal (hK127 _ ?_))
      refine WK.regx mixed (GX.m rfl (GX.pure (v':=.int .i64 ((i6 + 1:Nat):Int)) rfl rfl rfl rfl (congrArg (PVal.int .i64) (wrap_up hlt109 ge109)) (GX.m rfl (GX.done ?_))))
      refine WK.nil (QF.normal ?_)
      refine ga109 _ (c61.length - (i6 + 1)) _ (by omega) ?_ ⟨i6 + 1,(by omega),rfl,gg109,rfl⟩
      exact Conv.keep [0,1,2,3,4,5] [] [3,5,6] rfl rfl (qx rfl rfl (qx rfl rfl (qx rfl rfl qy))) rfl rfl
     ·rw [hb129]
      obtain ⟨f128,rfl⟩:=fuel_pos hb129 hfu128
      rw [F4l5_u,hb129,cond_true] at gg128; dsimp only at gg128
      refine WK.condT rfl (WK.skip (WK.seq ?_))
      refine WK.blockK (fun _ hK130=>?_)
      refine WK.seq (WK.drawn mixed (RD.m rfl (RD.m rfl (RD.m rfl (RD.idxT (c:=TEntry.c) (x:=x6) rfl rfl rfl (Int.natCast_nonneg _) hx109 (RD.q (.rptr (TEntry.c x6)) (RD.q (.agg [.int .u32 x6.P.A,.int .i64 x6.P.N]) (RD.m rfl ?_))))))))
      rcases zw gg128 with ⟨_,gg128⟩ | ⟨c85,hc85,gg128⟩
      ·subst gg128
       first | replace gg109:=zq gg109 | replace gg109:=oexc_n gg109
       subst gg109
       first | replace hR:=zq hR | replace hR:=oexc_n hR
       cases hR
      try dsimp only at gg128
      try dsimp only at gg128
      refine RD.callx (r':=.ro 2 (c85.map THop.c)) (zx:=[(0,.box [.ptr 1 0,.own 4 3 0 row4.length,.mapr 5]),(1,.box [.own 2 6 0 row2.length,.own 3 1 0 row3.length,.int .i64 box_2_1,.int .i64 box_3_1]),(2,.row 6 101 (row2.map TNode.c)),(3,.row 1 3 (row3.map c_i64)),(4,.row 3 71 (row4.map TGroup.c)),(5,.mq map5.1 (map5.2.map (encE (fun y=>.int .i64 y))))]) (zy:=6) [0,1,2,3,4,5] [] rfl rfl rfl rfl rfl rfl (f18_ok (⟨(⟨row2,row3,box_2_1,box_3_1⟩ : TTrie),row4,map5⟩ : TFib) x6.P c61 _ hc85) (.inl rfl) rfl rfl rfl (RD.m rfl (RD.m rfl (RD.m rfl ?_)))
      rcases zw gg128 with ⟨_,gg128⟩ | ⟨x1031,hx1031,gg128⟩
      ·subst gg128
       first | replace gg109:=zq gg109 | replace gg109:=oexc_n gg109
       subst gg109
       first | replace hR:=zq hR | replace hR:=oexc_n hR
       cases hR
      try dsimp only at gg128
      obtain ⟨hx10310,hx1031j,hx1031l,hx1031⟩:=zk hx1031
      refine RD.idxT (c:=TEntry.c) (x:=x1031) rfl rfl rfl hx10310 hx1031 (RD.q (.rptr (TEntry.c x1031)) (RD.q (.agg [.int .u32 x1031.P.A,.int .i64 x1031.P.N]) (RD.m rfl ?_)))
      rcases zw gg128 with ⟨_,gg128⟩ | ⟨c93,hc93,gg128⟩
      ·subst gg128
       first | replace gg109:=zq gg109 | replace gg109:=oexc_n gg109
       subst gg109
       first | replace hR:=zq hR | replace hR:=oexc_n hR
       cases hR
      try dsimp only at gg128
      try dsimp only at gg128
      refine RD.callx (r':=.ro 2 (c93.map THop.c)) (zx:=[(0,.box [.ptr 1 0,.own 4 3 0 row4.length,.mapr 5]),(1,.box [.own 2 6 0 row2.length,.own 3 1 0 row3.length,.int .i64 box_2_1,.int .i64 box_3_1]),(2,.row 6 101 (row2.map TNode.c)),(3,.row 1 3 (row3.map c_i64)),(4,.row 3 71 (row4.map TGroup.c)),(5,.mq map5.1 (map5.2.map (encE (fun y=>.int .i64 y))))]) (zy:=6) [0,1,2,3,4,5] [] rfl rfl rfl rfl rfl rfl (f18_ok (⟨(⟨row2,row3,box_2_1,box_3_1⟩ : TTrie),row4,map5⟩ : TFib) x1031.P c61 _ hc93) (.inl rfl) rfl rfl rfl (RD.m rfl (RD.m rfl (RD.done rfl (WK.seq (WK.drawn mixed (RD.m rfl (RD.pure (v':=.int .i64 (c85.length:Int)) rfl rfl rfl rfl (zj _ _) (RD.q (.bool (decide (0 < (c85.length:Int)))) (RD.m rfl ?_)))))))))
      rcases qq (decide (0 < (c85.length:Int))) with hb134 | hb134
      ·rw [hb134]; try simp only [hb134,bb] at gg128
       refine RD.skip rfl rfl (RD.skip rfl rfl (RD.skip rfl rfl (RD.q (.bool false) (RD.m rfl ?_))))
       iterate 17 refine RD.skip rfl rfl ?_
       refine RD.q (.bool false) (RD.doneB [0,1,3,7,15,31,63,127,255,511,511,2047,4095,8191,511,511,49663,115199,246271,524287,511,1049087,511,7340543,15729151,33554431,67108863] (by kernel_rfl) (by kernel_rfl) (by kernel_rfl) (WK.condF rfl (WK.skip ?_)))
       refine WK.nil (QF.normal (hK130 _ ?_))
       refine WK.regx mixed (GX.m rfl (GX.q (.int .i64 (IntKind.i64.wrap (i7 + 1))) (GX.m rfl (GX.done ?_))))
       refine WK.nil (QF.normal ?_)
       refine ga128 _ f128 _ (Nat.lt_succ_self _) ?_ ⟨(IntKind.i64.wrap (i7 + 1)),fuel_up hb129 (by omega) hfu128,(by ((try simp only [List.length_append,List.length_cons,List.length_nil,decide_eq_true_eq,decide_eq_false_iff_not] at *) <;> first | omega | (rw [wrap64_of (by omega) (by omega)]; omega))),gg128,rfl⟩
       exact Conv.keep [0,1,2,3,4,5] [] [3,5,6,7] rfl rfl (qx rfl rfl (qx rfl rfl (qx rfl rfl (qx rfl rfl qy)))) rfl rfl
      ·rw [hb134]; try simp only [hb134,bb] at gg128
       refine RD.m rfl (RD.pure (v':=.int .i64 (c93.length:Int)) rfl rfl rfl rfl (zj _ _) (RD.q (.bool (decide (0 < (c93.length:Int)))) (RD.q (.bool (decide (0 < (c93.length:Int)))) (RD.m rfl ?_))))
       rcases qq (decide (0 < (c93.length:Int))) with hb135 | hb135
       ·rw [hb135]; try simp only [hb135,bb] at gg128
        iterate 17 refine RD.skip rfl rfl ?_
        refine RD.q (.bool false) (RD.doneB [0,1,3,7,15,31,63,127,255,511,511,2047,4095,8191,511,511,49663,115199,246271,524287,511,1049087,511,7340543,15729151,33554431,67108863] (by kernel_rfl) (by kernel_rfl) (by kernel_rfl) (WK.condF rfl (WK.skip ?_)))
        refine WK.nil (QF.normal (hK130 _ ?_))
        refine WK.regx mixed (GX.m rfl (GX.q (.int .i64 (IntKind.i64.wrap (i7 + 1))) (GX.m rfl (GX.done ?_))))
        refine WK.nil (QF.normal ?_)
        refine ga128 _ f128 _ (Nat.lt_succ_self _) ?_ ⟨(IntKind.i64.wrap (i7 + 1)),fuel_up hb129 (by omega) hfu128,(by ((try simp only [List.length_append,List.length_cons,List.length_nil,decide_eq_true_eq,decide_eq_false_iff_not] at *) <;> first | omega | (rw [wrap64_of (by omega) (by omega)]; omega))),gg128,rfl⟩
        exact Conv.keep [0,1,2,3,4,5] [] [3,5,6,7] rfl rfl (qx rfl rfl (qx rfl rfl (qx rfl rfl (qx rfl rfl qy)))) rfl rfl
       ·rw [hb135]; try simp only [hb135,bb] at gg128
        refine RD.m rfl (RD.m rfl (RD.idxT (c:=TEntry.c) (x:=x6) rfl rfl rfl (Int.natCast_nonneg _) hx109 (RD.q (.rptr [.int .i64 x6.V]) (RD.q (.int .i64 x6.V) (RD.m rfl (RD.m rfl (RD.idxT (c:=TEntry.c) (x:=x1031) rfl rfl rfl hx10310 hx1031 (RD.q (.rptr [.int .i64 x1031.V]) (RD.q (.int .i64 x1031.V) (RD.q (.bool (decide (x6.V = x1031.V))) (RD.m rfl ?_)))))))))))
        rcases zw gg128 with ⟨_,gg128⟩ | ⟨c115,hc115,gg128⟩
        ·subst gg128
         first | replace gg109:=zq gg109 | replace gg109:=oexc_n gg109
         subst gg109
         first | replace hR:=zq hR | replace hR:=oexc_n hR
         cases hR
        try dsimp only at gg128
        try dsimp only at gg128
        refine RD.callp (r:=.ro 2 (c115.map THop.c)) rfl rfl rfl (f14_ok c85 _ hc115) rfl rfl (RD.m rfl ?_)
        rcases zw gg128 with ⟨_,gg128⟩ | ⟨c117,hc117,gg128⟩
        ·subst gg128
         first | replace gg109:=zq gg109 | replace gg109:=oexc_n gg109
         subst gg109
         first | replace hR:=zq hR | replace hR:=oexc_n hR
         cases hR
        try dsimp only at gg128
        try dsimp only at gg128
        refine RD.callp (r:=.ro 2 (c117.map THop.c)) rfl rfl rfl (f14_ok c93 _ hc117) rfl rfl ?_
        rcases zw gg128 with ⟨_,gg128⟩ | ⟨c118,hc118,gg128⟩
        ·subst gg128
         first | replace gg109:=zq gg109 | replace gg109:=oexc_n gg109
         subst gg109
         first | replace hR:=zq hR | replace hR:=oexc_n hR
         cases hR
        try dsimp only at gg128
        try dsimp only at gg128
        refine RD.callp (r:=.bool c118) rfl rfl rfl (f13_ok c115 c117 _ hc118) rfl rfl ?_
        iterate 2 refine RD.q (.bool (!((decide (x6.V = x1031.V)) == c118))) ?_
        refine RD.doneB [0,1,3,7,15,31,63,127,255,511,511,2047,4095,8191,511,511,49663,115199,246271,524287,511,1049087,511,7340543,15729151,33554431,67108863] (by kernel_rfl) (by kernel_rfl) (by kernel_rfl) ?_
        rcases qq ((decide (x6.V = x1031.V)) == c118) with hb136 | hb136
        ·rw [hb136]; try simp only [hb136,bb] at gg128
         refine WK.condT rfl (WK.sr mixed (GX.m rfl (GX.done (WK.ret (QF.ret ?_)))))
         refine QF.ret (gf128 _ _ ?_)
         refine QF.ret ?_
         refine QF.ret (gf109 _ _ ?_)
         subst gg128
         first | replace gg109:=oexc_e gg109 | replace gg109:=oexc_k gg109 | replace gg109:=obind_s gg109
         try dsimp only at gg109
         subst gg109
         first | replace hR:=oexc_e hR | replace hR:=oexc_k hR | replace hR:=obind_s hR
         try dsimp only at hR
         obtain rfl:=Option.some.inj hR
         exact RetQ.fr [] (.inr rfl) rfl rfl rfl rfl
        ·rw [hb136]; try simp only [hb136,bb] at gg128
         refine WK.condF rfl (WK.skip ?_)
         refine WK.nil (QF.normal (hK130 _ ?_))
         refine WK.regx mixed (GX.m rfl (GX.q (.int .i64 (IntKind.i64.wrap (i7 + 1))) (GX.m rfl (GX.done ?_))))
         refine WK.nil (QF.normal ?_)
         refine ga128 _ f128 _ (Nat.lt_succ_self _) ?_ ⟨(IntKind.i64.wrap (i7 + 1)),fuel_up hb129 (by omega) hfu128,(by ((try simp only [List.length_append,List.length_cons,List.length_nil,decide_eq_true_eq,decide_eq_false_iff_not] at *) <;> first | omega | (rw [wrap64_of (by omega) (by omega)]; omega))),gg128,rfl⟩
         exact Conv.keep [0,1,2,3,4,5] [] [3,5,6,7] rfl rfl (qx rfl rfl (qx rfl rfl (qx rfl rfl (qx rfl rfl qy)))) rfl rfl
   ·rw [hb108]; first | replace hR:=wy hb108 hR | (try simp only [hb108,bb] at hR)
    refine WK.condT rfl (WK.sr mixed (GX.m rfl (GX.done (WK.ret ?_))))
    obtain rfl:=Option.some.inj hR
    exact RetQ.fr [] (.inr rfl) rfl rfl rfl rfl
  ·rw [hb105]; try simp only [hb105,bb] at gg72
   refine WK.condT rfl (WK.skip (WK.seq ?_))
   refine WK.blockK (fun _ hK137=>?_)
   refine WK.sr mixed (GX.m rfl (GX.m rfl (GX.idxT (c:=TAct.c) (x:=x4) rfl rfl rfl (Int.natCast_nonneg _) hx72 (GX.q (.agg (TAct.c x4)) ?_))))
   rcases zw gg72 with ⟨_,gg72⟩ | ⟨c28,hc28,gg72⟩
   ·subst gg72
    first | replace hR:=zq hR | replace hR:=oexc_n hR
    cases hR
   try dsimp only at gg72
   try dsimp only at gg72
   refine GX.callp (r:=.bool c28) rfl rfl rfl (f6_ok x4 _ hc28) rfl rfl (GX.done ?_)
   rcases qq (c28) with hb138 | hb138
   ·rw [hb138]; try simp only [hb138,bb] at gg72
    refine WK.condF rfl (WK.skip ?_)
    refine WK.nil (QF.normal (hK137 _ ?_))
    refine WK.regx mixed (GX.m rfl (GX.pure (v':=.int .i64 ((i4 + 1:Nat):Int)) rfl rfl rfl rfl (congrArg (PVal.int .i64) (wrap_up hlt72 ge72)) (GX.m rfl (GX.done ?_))))
    refine WK.nil (QF.normal ?_)
    refine ga72 _ (script0.length - (i4 + 1)) _ (by omega) ?_ ⟨i4 + 1,box_2_1,box_3_1,row2,row3,row4,map5,(by omega),rfl,gg72,rfl⟩
    exact Conv.keep [0,1,2,3,4,5] [] [0,3,4] rfl rfl (qx rfl rfl (qx rfl rfl (qx rfl rfl qy))) rfl rfl
   ·rw [hb138]; try simp only [hb138,bb] at gg72
    refine WK.condT rfl (WK.seq (WK.drawn mixed (RD.m rfl (RD.m rfl (RD.m rfl (RD.idxT (c:=TAct.c) (x:=x4) rfl rfl rfl (Int.natCast_nonneg _) hx72 (RD.q (.rptr [.int .u32 x4.P.A,.int .i64 x4.P.N,.ro 2 (x4.Hops.map THop.c),.ro 10 (x4.L.map qj.c)]) (RD.q (.agg [.int .u32 x4.P.A,.int .i64 x4.P.N]) (RD.m rfl (RD.m rfl (RD.idxT (c:=TAct.c) (x:=x4) rfl rfl rfl (Int.natCast_nonneg _) hx72 (RD.q (.rptr [.ro 2 (x4.Hops.map THop.c),.ro 10 (x4.L.map qj.c)]) (RD.q (.ro 2 (x4.Hops.map THop.c)) ?_)))))))))))))
    rcases zw gg72 with ⟨_,gg72⟩ | ⟨c40,hc40,gg72⟩
    ·subst gg72
     first | replace hR:=zq hR | replace hR:=oexc_n hR
     cases hR
    try dsimp only at gg72
    refine RD.callx (r':=.int .i64 c40.1) (zx:=[(0,.box [.ptr 1 0,.own 8 3 0 c40.2.sets.length,.mapr 5]),(1,.box [.own 6 6 0 c40.2.t.l.length,.own 7 1 0 c40.2.t.free.length,.int .i64 c40.2.t.root,.int .i64 c40.2.t.n]),(5,.mq c40.2.atf.1 (c40.2.atf.2.map (encE (fun y=>.int .i64 y)))),(8,.row 3 71 (c40.2.sets.map TGroup.c)),(7,.row 1 3 (c40.2.t.free.map c_i64)),(6,.row 6 101 (c40.2.t.l.map TNode.c))]) (zy:=9) [0,1,2,3,4,5] [] rfl rfl rfl rfl rfl rfl (f16_ok (⟨(⟨row2,row3,box_2_1,box_3_1⟩ : TTrie),row4,map5⟩ : TFib) x4.P x4.Hops _ hc40) (.inl rfl) rfl rfl rfl (RD.done rfl (WK.sr mixed (GX.m rfl (GX.m rfl (GX.m rfl (GX.idxT (c:=TAct.c) (x:=x4) rfl rfl rfl (Int.natCast_nonneg _) hx72 (GX.q (.rptr [.ro 10 (x4.L.map qj.c)]) (GX.q (.ro 10 (x4.L.map qj.c)) ?_))))))))
    rcases zw gg72 with ⟨_,gg72⟩ | ⟨c47,hc47,gg72⟩
    ·subst gg72
     first | replace hR:=zq hR | replace hR:=oexc_n hR
     cases hR
    try dsimp only at gg72
    refine GX.callx (r':=.tup [.int .i64 c47.1,.int .i64 c47.2.1]) (zx:=[(0,.box [.ptr 1 0,.own 11 3 0 c47.2.2.sets.length,.mapr 5]),(1,.box [.own 9 6 0 c47.2.2.t.l.length,.own 10 1 0 c47.2.2.t.free.length,.int .i64 c47.2.2.t.root,.int .i64 c47.2.2.t.n]),(5,.mq c47.2.2.atf.1 (c47.2.2.atf.2.map (encE (fun y=>.int .i64 y)))),(11,.row 3 71 (c47.2.2.sets.map TGroup.c)),(10,.row 1 3 (c47.2.2.t.free.map c_i64)),(9,.row 6 101 (c47.2.2.t.l.map TNode.c))]) (zy:=12) [0,1,6,7,8,5] [] rfl rfl rfl rfl rfl rfl (f10_ok c40.2 x4.L _ hc47) (.inl rfl) rfl rfl rfl (GX.done (WK.drawn mixed (RD.m rfl (RD.m rfl (RD.m rfl (RD.idxT (c:=TAct.c) (x:=x4) rfl rfl rfl (Int.natCast_nonneg _) hx72 (RD.q (.rptr [.int .u32 x4.P.A,.int .i64 x4.P.N,.ro 2 (x4.Hops.map THop.c),.ro 10 (x4.L.map qj.c)]) (RD.q (.agg [.int .u32 x4.P.A,.int .i64 x4.P.N]) (RD.m rfl (RD.m rfl (RD.idxT (c:=TAct.c) (x:=x4) rfl rfl rfl (Int.natCast_nonneg _) hx72 (RD.q (.rptr [.ro 2 (x4.Hops.map THop.c),.ro 10 (x4.L.map qj.c)]) (RD.q (.ro 2 (x4.Hops.map THop.c)) ?_)))))))))))))
    rcases zw gg72 with ⟨_,gg72⟩ | ⟨c59,hc59,gg72⟩
    ·subst gg72
     first | replace hR:=zq hR | replace hR:=oexc_n hR
     cases hR
    try dsimp only at gg72
    refine RD.callx (r':=.int .i64 c59.1) (zx:=[(0,.box [.ptr 1 0,.own 14 3 0 c59.2.sets.length,.mapr 5]),(1,.box [.own 12 6 0 c59.2.t.l.length,.own 13 1 0 c59.2.t.free.length,.int .i64 c59.2.t.root,.int .i64 c59.2.t.n]),(5,.mq c59.2.atf.1 (c59.2.atf.2.map (encE (fun y=>.int .i64 y)))),(14,.row 3 71 (c59.2.sets.map TGroup.c)),(13,.row 1 3 (c59.2.t.free.map c_i64)),(12,.row 6 101 (c59.2.t.l.map TNode.c))]) (zy:=15) [0,1,9,10,11,5] [] rfl rfl rfl rfl rfl rfl (f16_ok c47.2.2 x4.P x4.Hops _ hc59) (.inl rfl) rfl rfl rfl (RD.done rfl ?_)
    refine WK.nil (QF.normal (hK137 _ ?_))
    refine WK.regx mixed (GX.m rfl (GX.pure (v':=.int .i64 ((i4 + 1:Nat):Int)) rfl rfl rfl rfl (congrArg (PVal.int .i64) (wrap_up hlt72 ge72)) (GX.m rfl (GX.done ?_))))
    refine WK.nil (QF.normal ?_)
    refine ga72 _ (script0.length - (i4 + 1)) _ (by omega) ?_ ⟨i4 + 1,c59.2.t.root,c59.2.t.n,c59.2.t.l,c59.2.t.free,c59.2.sets,c59.2.atf,(by omega),rfl,gg72,rfl⟩
    exact Conv.keep [0,1,12,13,14,5] [] [0,3,4] rfl rfl (qx rfl rfl (qx rfl rfl (qx rfl rfl qy))) rfl rfl
end Go.Proofs.YtakallenldpkiaaGreatDoor.Abs
