/- The functions walked: each computes its Lean function (printed by this work's own program gen.py). -/
import Derived.Test.YtmfggjebbhdejaaGreatSo
import Derived.Test.YtmfggjebbhdejaaGreatW1
import Derived.Test.YtmfggjebbhdejaaGreatW2
set_option linter.unusedVariables false
set_option linter.unusedSimpArgs false
set_option maxRecDepth 10000
set_option maxHeartbeats 4000000
namespace Go.Proofs.YtmfggjebbhdejaaGreat.Abs
open Go
theorem f74_ok (t0:qk) (c1:qj) (R:qk × Bool) (hR:F74 t0 c1 = some R):FnOk Tryz.prog 74 [.agg (qk.c t0),.agg (qj.c c1)] [] 0 (.tup [.agg (qk.c R.1),.bool R.2]) [] 0:=by
 refine FnOk.wk i74 rfl rfl ?_
 unfold F74 at hR
 try dsimp only at hR
 change WK _ _ _ [ac74] _ ⟨[(0,.agg (qk.c t0)),(1,.agg (qj.c c1))],[],0⟩
 unfold ac74
 refine WK.sr qv (GX.step (v':=.ptr 0 0) (zj:=[(0,.box (qk.c t0))]) (zk:=1) rfl rfl rfl rfl rfl rfl rfl (GX.step (v':=.ptr 1 0) (zj:=[(0,.box (qk.c t0)),(1,.box (qj.c c1))]) (zk:=2) rfl rfl rfl rfl rfl rfl rfl (GX.step (v':=.ptr 2 0) (zj:=[(0,.box (qk.c t0)),(1,.box (qj.c c1)),(2,.box [.nils])]) (zk:=3) rfl rfl rfl rfl rfl rfl rfl (GX.m rfl (GX.done (WK.sr qv (GX.q (.ptr 0 0) (GX.q (.ro 10 (t0.L.map qj.c)) (GX.q (.agg (qj.c c1)) ?_)))))))))
 obtain ⟨c12,hc12,hR⟩:=wx hR; try dsimp only at hR
 refine GX.callp (r:=.tup [.int .i64 c12.1,.bool c12.2]) rfl rfl rfl (f90_ok t0.L c1 91 [] [] (fun y0 y1=>F91 y0 y1) ⟨rfl,rfl⟩ (fun y0 y1 _ hr=>f91_ok y0 y1 _ hr) _ hc12) rfl rfl (GX.m rfl (GX.q (.int .i64 c12.1) (GX.q (.bool c12.2) (GX.m rfl (GX.m rfl (GX.done (WK.seq (WK.sr qv (GX.m rfl (GX.q (.bool (!c12.2)) (GX.done ?_)))))))))))
 rcases qq (c12.2) with hb1 | hb1
 ·rw [hb1]; first | replace hR:=kz hb1 hR | (try simp only [hb1,bb] at hR)
  refine WK.condT rfl (WK.sr qv (GX.q (.agg (qk.c t0)) (GX.step0 (zj:=[(0,.box (qk.c t0)),(1,.box (qj.c c1)),(2,.box (qk.c t0))]) (zk:=3) rfl rfl rfl rfl rfl (GX.m rfl (GX.done (WK.ret ?_))))))
  obtain rfl:=Option.some.inj hR
  exact RetQ.fr [] (.inr rfl) rfl rfl rfl rfl
 ·rw [hb1]; first | replace hR:=ky hb1 hR | (try simp only [hb1,bb] at hR)
  refine WK.condF rfl (WK.skip (WK.sr qv (GX.q (.ptr 0 0) (GX.q (.ro 10 (t0.L.map qj.c)) ?_))))
  rcases qq (decide (t0.L.length < 1099511627776)) with hg2 | hg2
  ·replace hR:=kz hg2 hR
   cases hR
  replace hR:=ky hg2 hR; try dsimp only at hR
  have hg2_:=of_decide_eq_true hg2
  refine GX.callx (r':=.own 3 10 0 t0.L.length) (zj:=[(0,.box (qk.c t0)),(1,.box (qj.c c1)),(2,.box [.nils]),(3,.row 10 42 (t0.L.map qj.c))]) (zk:=4) [] [] rfl rfl rfl rfl rfl rfl (clone_okT (c:=qj.c) qv i85 t0.L (by decide) (by omega) (by omega)) (.inl rfl) rfl rfl rfl (GX.m rfl (GX.m rfl (GX.q (.int .i64 (IntKind.i64.wrap (c12.1 + 1))) ?_)))
  rcases qq (decide ((0:Int) ≤ c12.1)) with hg3 | hg3
  ·replace hR:=kz hg3 hR
   cases hR
  replace hR:=ky hg3 hR; try dsimp only at hR
  have hg3_:=of_decide_eq_true hg3
  rcases qq (decide (c12.1 ≤ IntKind.i64.wrap (c12.1 + 1))) with hg4 | hg4
  ·replace hR:=kz hg4 hR
   cases hR
  replace hR:=ky hg4 hR; try dsimp only at hR
  have hg4_:=of_decide_eq_true hg4
  rcases qq (decide (IntKind.i64.wrap (c12.1 + 1) ≤ (t0.L.length:Int))) with hg5 | hg5
  ·replace hR:=kz hg5 hR
   cases hR
  replace hR:=ky hg5 hR; try dsimp only at hR
  have hg5_:=of_decide_eq_true hg5
  refine GX.callx (r':=.own 4 10 0 (del_ t0.L c12.1 (IntKind.i64.wrap (c12.1 + 1))).length) (zj:=[(0,.box (qk.c t0)),(1,.box (qj.c c1)),(2,.box [.nils]),(4,.row 10 42 ((del_ t0.L c12.1 (IntKind.i64.wrap (c12.1 + 1))).map qj.c))]) (zk:=5) [3] [] rfl rfl rfl rfl rfl rfl (delete_okT (c:=qj.c) (fun _=>rfl) qv i111 t0.L c12.1 (IntKind.i64.wrap (c12.1 + 1)) rfl (by omega) (by omega) (by omega) (by omega)) (.inl rfl) rfl rfl rfl (GX.q (.agg [.own 4 10 0 (del_ t0.L c12.1 (IntKind.i64.wrap (c12.1 + 1))).length]) (GX.step0 (zj:=[(0,.box (qk.c t0)),(1,.box (qj.c c1)),(2,.box [.own 4 10 0 (del_ t0.L c12.1 (IntKind.i64.wrap (c12.1 + 1))).length]),(4,.row 10 42 ((del_ t0.L c12.1 (IntKind.i64.wrap (c12.1 + 1))).map qj.c))]) (zk:=5) rfl rfl rfl rfl rfl (GX.m rfl (GX.done (WK.ret ?_)))))
  obtain rfl:=Option.some.inj hR
  exact RetQ.fr [4] (.inr rfl) rfl rfl (qz (viewP_agg (qz (view_rowT rfl rfl) qw)) (qz rfl qw)) rfl
theorem f31_ok (n0:TNet) (at1:Int) (c2:qj) (R:TNet × Int) (hR:F31 n0 at1 c2 = some R):FnOk Tryz.prog 31 [.agg (TNet.c n0),.int .i64 at1,.agg (qj.c c2)] [] 0 (.tup [.agg (TNet.c R.1),.int .i64 R.2]) [] 0:=by
 refine FnOk.wk i31 rfl rfl ?_
 unfold F31 at hR
 try dsimp only at hR
 change WK _ _ _ [ac31] _ ⟨[(0,.agg (TNet.c n0)),(1,.int .i64 at1),(2,.agg (qj.c c2))],[],0⟩
 unfold ac31
 refine WK.sr qv (GX.step (v':=.ptr 0 0) (zj:=[(0,.box (TNet.c n0))]) (zk:=1) rfl rfl rfl rfl rfl rfl rfl (GX.step (v':=.ptr 1 0) (zj:=[(0,.box (TNet.c n0)),(1,.box (qj.c c2))]) (zk:=2) rfl rfl rfl rfl rfl rfl rfl (GX.step (v':=.ptr 2 0) (zj:=[(0,.box (TNet.c n0)),(1,.box (qj.c c2)),(2,.box [.nils,.nils,.nils,.nils,.bool false])]) (zk:=3) rfl rfl rfl rfl rfl rfl rfl (GX.m rfl (GX.done (WK.seq (WK.sr qv (GX.q (.agg (TNet.c n0)) (GX.m rfl ?_)))))))))
 obtain ⟨c12,hc12,hR⟩:=wx hR; try dsimp only at hR
 try dsimp only at hR
 refine GX.callp (r:=.bool c12) rfl rfl rfl (f64_ok n0 at1 _ hc12) rfl rfl (GX.q (.bool (!c12)) (GX.m rfl ?_))
 rcases qq (c12) with hb1 | hb1
 ·rw [hb1]; first | replace hR:=kz hb1 hR | (try simp only [hb1,bb] at hR)
  refine GX.skip rfl rfl (GX.skip rfl rfl (GX.q (.bool true) (GX.done (WK.condT rfl (WK.sr qv (GX.q (.agg (TNet.c n0)) (GX.step0 (zj:=[(0,.box (TNet.c n0)),(1,.box (qj.c c2)),(2,.box (TNet.c n0))]) (zk:=3) rfl rfl rfl rfl rfl (GX.m rfl (GX.done (WK.ret ?_))))))))))
  obtain rfl:=Option.some.inj hR
  exact RetQ.fr [] (.inr rfl) rfl rfl rfl rfl
 ·rw [hb1]; first | replace hR:=ky hb1 hR | (try simp only [hb1,bb] at hR)
  refine GX.q (.ptr 1 7) (GX.q (.bool c2.Leaked) (GX.q (.bool c2.Leaked) (GX.done ?_)))
  rcases qq (c2.Leaked) with hb2 | hb2
  ·rw [hb2]; first | replace hR:=kz hb2 hR | (try simp only [hb2,bb] at hR)
   refine WK.condF rfl (WK.skip (WK.seq (WK.drawn qv (RD.q (.ptr 0 0) (RD.q (.ro 1 (n0.T.map qk.c)) (RD.m rfl ?_))))))
   obtain ⟨x902,hx902,hR⟩:=wx hR; try dsimp only at hR
   obtain ⟨hx9020,hx902j,hx902l,hx902⟩:=kx hx902
   refine RD.idxT (c:=qk.c) (x:=x902) rfl rfl rfl hx9020 hx902 (RD.q (.agg (qk.c x902)) (RD.q (.agg (qj.c c2)) ?_))
   obtain ⟨c26,hc26,hR⟩:=wx hR; try dsimp only at hR
   refine RD.callp (r:=.tup [.agg [.ro 10 (c26.1.L.map qj.c)],.bool c26.2]) rfl rfl rfl (f74_ok x902 c2 _ hc26) rfl rfl (RD.m rfl (RD.q (.agg [.ro 10 (c26.1.L.map qj.c)]) (RD.q (.bool c26.2) (RD.step (v':=.ptr 3 0) (zj:=[(0,.box (TNet.c n0)),(1,.box (qj.c c2)),(2,.box [.nils,.nils,.nils,.nils,.bool false]),(3,.box [.nils])]) (zk:=4) rfl rfl rfl rfl rfl rfl rfl (RD.step0 (zj:=[(0,.box (TNet.c n0)),(1,.box (qj.c c2)),(2,.box [.nils,.nils,.nils,.nils,.bool false]),(3,.box (qk.c c26.1))]) (zk:=4) rfl rfl rfl rfl rfl (RD.m rfl (RD.done rfl (WK.seq (WK.sr qv (GX.m rfl (GX.q (.bool (!c26.2)) (GX.done ?_))))))))))))
   rcases qq (c26.2) with hb4 | hb4
   ·rw [hb4]; first | replace hR:=kz hb4 hR | (try simp only [hb4,bb] at hR)
    refine WK.condT rfl (WK.sr qv (GX.q (.agg (TNet.c n0)) (GX.step0 (zj:=[(0,.box (TNet.c n0)),(1,.box (qj.c c2)),(2,.box (TNet.c n0)),(3,.box (qk.c c26.1))]) (zk:=4) rfl rfl rfl rfl rfl (GX.m rfl (GX.done (WK.ret ?_))))))
    obtain rfl:=Option.some.inj hR
    exact RetQ.fr [] (.inr rfl) rfl rfl rfl rfl
   ·rw [hb4]; first | replace hR:=ky hb4 hR | (try simp only [hb4,bb] at hR)
    refine WK.condF rfl (WK.skip (WK.sr qv (GX.q (.agg (TNet.c n0)) (GX.m rfl (GX.q (.agg (qk.c c26.1)) (GX.q (.agg (qj.c c2)) ?_))))))
    obtain ⟨c36,hc36,hR⟩:=wx hR; try dsimp only at hR
    try dsimp only at hR
    refine GX.callp (r:=.agg (TNet.c c36)) rfl rfl rfl (f69_ok n0 at1 c26.1 c2 _ hc36) rfl rfl (GX.step0 (zj:=[(0,.box (TNet.c n0)),(1,.box (qj.c c2)),(2,.box (TNet.c c36)),(3,.box (qk.c c26.1))]) (zk:=4) rfl rfl rfl rfl rfl (GX.m rfl (GX.done (WK.ret ?_))))
    obtain rfl:=Option.some.inj hR
    exact RetQ.fr [] (.inr rfl) rfl rfl rfl rfl
  ·rw [hb2]; first | replace hR:=ky hb2 hR | (try simp only [hb2,bb] at hR)
   refine WK.condT rfl (WK.sr qv (GX.q (.agg (TNet.c n0)) (GX.step0 (zj:=[(0,.box (TNet.c n0)),(1,.box (qj.c c2)),(2,.box (TNet.c n0))]) (zk:=3) rfl rfl rfl rfl rfl (GX.m rfl (GX.done (WK.ret ?_))))))
   obtain rfl:=Option.some.inj hR
   exact RetQ.fr [] (.inr rfl) rfl rfl rfl rfl
theorem f76_ok (c0:qj) (a1:zz) (R:Bool) (hR:F76 c0 a1 = R):FnOk Tryz.prog 76 [.agg (qj.c c0),.rptr (zz.c a1)] [] 0 (.bool R) [] 0:=by
 refine FnOk.wk i76 rfl rfl ?_
 unfold F76 at hR
 change WK _ _ _ [ac76] _ ⟨[(0,.agg (qj.c c0)),(1,.rptr (zz.c a1))],[],0⟩
 unfold ac76
 refine WK.sr qv (GX.step (v':=.ptr 0 0) (zj:=[(0,.box (qj.c c0))]) (zk:=1) rfl rfl rfl rfl rfl rfl rfl (GX.m rfl (GX.done (WK.sr qv (GX.q (.agg (qj.c c0)) (GX.q (.rptr (zz.c a1)) (GX.q (.int .i64 a1.From) ?_)))))))
 generalize hc7:F46 c0 a1.From = c7 at hR
 try dsimp only at hR
 refine GX.callp (r:=.bool c7) rfl rfl rfl (f46_ok c0 a1.From _ hc7) rfl rfl (GX.m rfl (GX.done (WK.ret ?_)))
 subst hR
 exact RetQ.fr [] (.inr rfl) rfl rfl rfl rfl
theorem f32_ok (n0:TNet) (i1:Int) (R:TNet × Int) (hR:F32 n0 i1 = some R):FnOk Tryz.prog 32 [.agg (TNet.c n0),.int .i64 i1] [] 0 (.tup [.agg (TNet.c R.1),.int .i64 R.2]) [] 0:=by
 refine FnOk.wk i32 rfl rfl ?_
 unfold F32 at hR
 try dsimp only at hR
 change WK _ _ _ [ac32] _ ⟨[(0,.agg (TNet.c n0)),(1,.int .i64 i1)],[],0⟩
 unfold ac32
 refine WK.sr qv (GX.step (v':=.ptr 0 0) (zj:=[(0,.box (TNet.c n0))]) (zk:=1) rfl rfl rfl rfl rfl rfl rfl (GX.step (v':=.ptr 1 0) (zj:=[(0,.box (TNet.c n0)),(1,.box [.nils,.nils,.nils,.nils,.bool false])]) (zk:=2) rfl rfl rfl rfl rfl rfl rfl (GX.m rfl (GX.done (WK.seq (WK.sr qv (GX.m rfl (GX.q (.bool (decide (i1 < 0))) (GX.m rfl ?_)))))))))
 rcases qq (decide (i1 < 0)) with hb1 | hb1
 ·rw [hb1]; first | replace hR:=kz hb1 hR | (try simp only [hb1,bb] at hR)
  refine GX.m rfl (GX.q (.ptr 0 2) (GX.q (.ro 3 (n0.L.map zz.c)) (GX.pure (v':=.int .i64 (n0.L.length:Int)) rfl rfl rfl rfl (ww _ _) (GX.q (.bool (decide ((n0.L.length:Int) ≤ i1))) (GX.q (.bool (decide ((n0.L.length:Int) ≤ i1))) (GX.done ?_))))))
  rcases qq (decide ((n0.L.length:Int) ≤ i1)) with hb2 | hb2
  ·rw [hb2]; first | replace hR:=kz hb2 hR | (try simp only [hb2,bb] at hR)
   refine WK.condF rfl (WK.skip (WK.seq (WK.drawn qv (RD.q (.ptr 0 2) (RD.q (.ro 3 (n0.L.map zz.c)) (RD.m rfl ?_))))))
   obtain ⟨x902,hx902,hR⟩:=wx hR; try dsimp only at hR
   obtain ⟨hx9020,hx902j,hx902l,hx902⟩:=kx hx902
   refine RD.idxT (c:=zz.c) (x:=x902) rfl rfl rfl hx9020 hx902 (RD.q (.agg (zz.c x902)) (RD.q (.agg (TNet.c n0)) ?_))
   obtain ⟨c26,hc26,hR⟩:=wx hR; try dsimp only at hR
   try dsimp only at hR
   refine RD.callx (r':=.ptr 2 0) (zj:=[(0,.box (TNet.c n0)),(1,.box [.nils,.nils,.nils,.nils,.bool false]),(6,.row 3 108 (c26.Work.map zw.c)),(5,.row 3 84 (c26.L.map zz.c)),(4,.row 1 34 (c26.Sel.map (wq 10 qj.c))),(3,.row 1 36 (c26.T.map qk.c)),(2,.box [.own 3 1 0 c26.T.length,.own 4 1 0 c26.Sel.length,.own 5 3 0 c26.L.length,.own 6 3 0 c26.Work.length,.bool c26.Over])]) (zk:=7) [] [] rfl rfl rfl rfl rfl rfl (f41_ok n0 _ hc26) (.inl rfl) rfl rfl rfl (RD.step (v':=.ptr 7 0) (zj:=[(0,.box (TNet.c n0)),(1,.box [.nils,.nils,.nils,.nils,.bool false]),(6,.row 3 108 (c26.Work.map zw.c)),(5,.row 3 84 (c26.L.map zz.c)),(4,.row 1 34 (c26.Sel.map (wq 10 qj.c))),(3,.row 1 36 (c26.T.map qk.c)),(2,.box [.own 3 1 0 c26.T.length,.own 4 1 0 c26.Sel.length,.own 5 3 0 c26.L.length,.own 6 3 0 c26.Work.length,.bool c26.Over]),(7,.box [.int .i64 0,.int .i64 0,.nils])]) (zk:=8) rfl rfl rfl rfl rfl rfl rfl (RD.step0 (zj:=[(0,.box (TNet.c n0)),(1,.box [.nils,.nils,.nils,.nils,.bool false]),(6,.row 3 108 (c26.Work.map zw.c)),(5,.row 3 84 (c26.L.map zz.c)),(4,.row 1 34 (c26.Sel.map (wq 10 qj.c))),(3,.row 1 36 (c26.T.map qk.c)),(2,.box [.own 3 1 0 c26.T.length,.own 4 1 0 c26.Sel.length,.own 5 3 0 c26.L.length,.own 6 3 0 c26.Work.length,.bool c26.Over]),(7,.box (zz.c x902))]) (zk:=8) rfl rfl rfl rfl rfl (RD.m rfl (RD.done rfl (WK.sr qv (GX.m rfl (GX.m rfl (GX.q (.ptr 2 0) (GX.q (.ptr 2 2) (GX.q (.own 5 3 0 c26.L.length) (GX.m rfl (GX.m rfl (GX.q (.int .i64 (IntKind.i64.wrap (i1 + 1))) ?_)))))))))))))
   rcases qq (decide ((0:Int) ≤ i1)) with hg5 | hg5
   ·replace hR:=kz hg5 hR
    cases hR
   replace hR:=ky hg5 hR; try dsimp only at hR
   have hg5_:=of_decide_eq_true hg5
   rcases qq (decide (i1 ≤ IntKind.i64.wrap (i1 + 1))) with hg6 | hg6
   ·replace hR:=kz hg6 hR
    cases hR
   replace hR:=ky hg6 hR; try dsimp only at hR
   have hg6_:=of_decide_eq_true hg6
   rcases qq (decide (IntKind.i64.wrap (i1 + 1) ≤ (c26.L.length:Int))) with hg7 | hg7
   ·replace hR:=kz hg7 hR
    cases hR
   replace hR:=ky hg7 hR; try dsimp only at hR
   have hg7_:=of_decide_eq_true hg7
   rcases qq (decide (c26.L.length < 1099511627776)) with hg8 | hg8
   ·replace hR:=kz hg8 hR
    cases hR
   replace hR:=ky hg8 hR; try dsimp only at hR
   have hg8_:=of_decide_eq_true hg8
   refine GX.callx (r':=.own 8 3 0 (del_ c26.L i1 (IntKind.i64.wrap (i1 + 1))).length) (zj:=[(0,.box (TNet.c n0)),(1,.box [.nils,.nils,.nils,.nils,.bool false]),(6,.row 3 108 (c26.Work.map zw.c)),(4,.row 1 34 (c26.Sel.map (wq 10 qj.c))),(3,.row 1 36 (c26.T.map qk.c)),(2,.box [.own 3 1 0 c26.T.length,.own 4 1 0 c26.Sel.length,.own 5 3 0 c26.L.length,.own 6 3 0 c26.Work.length,.bool c26.Over]),(7,.box (zz.c x902)),(8,.row 3 84 ((del_ c26.L i1 (IntKind.i64.wrap (i1 + 1))).map zz.c))]) (zk:=9) [5] [] rfl rfl rfl rfl rfl rfl (delete_okT (c:=zz.c) (fun _=>rfl) qv i75 c26.L i1 (IntKind.i64.wrap (i1 + 1)) rfl (by omega) (by omega) (by omega) (by omega)) (.inl rfl) rfl rfl rfl (GX.q (.ptr 2 0) (GX.q (.ptr 2 2) (GX.step0 (zj:=[(0,.box (TNet.c n0)),(1,.box [.nils,.nils,.nils,.nils,.bool false]),(6,.row 3 108 (c26.Work.map zw.c)),(4,.row 1 34 (c26.Sel.map (wq 10 qj.c))),(3,.row 1 36 (c26.T.map qk.c)),(2,.box [.own 3 1 0 c26.T.length,.own 4 1 0 c26.Sel.length,.own 8 3 0 (del_ c26.L i1 (IntKind.i64.wrap (i1 + 1))).length,.own 6 3 0 c26.Work.length,.bool c26.Over]),(7,.box (zz.c x902)),(8,.row 3 84 ((del_ c26.L i1 (IntKind.i64.wrap (i1 + 1))).map zz.c))]) (zk:=9) rfl rfl rfl rfl rfl (GX.done (WK.seq (WK.seq (WK.drawn qv (RD.m rfl (RD.q (.ptr 2 0) (RD.q (.ptr 2 0) (RD.q (.own 3 1 0 c26.T.length) (RD.q (.ptr 7 1) (RD.q (.int .i64 x902.To) ?_)))))))))))))
   obtain ⟨x908,hx908,hR⟩:=wx hR; try dsimp only at hR
   obtain ⟨hx9080,hx908j,hx908l,hx908⟩:=kx hx908
   refine RD.pure (v':=.eptr 3 1 x902.To.toNat 0) rfl rfl rfl (core_idxoT (c:=qk.c) (L:=c26.T) (j:=x902.To.toNat) rfl hx908j hx908l (by exact Nat.le_refl _)) rfl (RD.pure (v':=.eptr 3 1 x902.To.toNat 0) rfl rfl rfl (core_fldT (c:=qk.c) (L:=c26.T) rfl (by omega) rfl) rfl (RD.pure (v':=.ro 10 (x908.L.map qj.c)) rfl rfl rfl (core_loaT (c:=qk.c) (L:=c26.T) (x:=x908) rfl hx908 rfl) rfl (RD.pure (v':=.int .i64 (x908.L.length:Int)) rfl rfl rfl rfl (ww _ _) (RD.m rfl (RD.done rfl ?_)))))
   refine WK.conv (st':=⟨[(4,.ptr 0 0),(6,.ptr 1 0),(7,.ptr 2 0),(46,.ro 10 (x908.L.map qj.c)),(47,.int .i64 (x908.L.length:Int)),(48,.int .i64 0)],[(0,.box [.nils,.nils,.nils,.nils,.bool false]),(1,.box (zz.c x902)),(2,.box [.own 3 1 0 c26.T.length,.own 4 1 0 c26.Sel.length,.ro 3 ((del_ c26.L i1 (IntKind.i64.wrap (i1 + 1))).map zz.c),.own 5 3 0 c26.Work.length,.bool c26.Over]),(3,.row 1 36 (c26.T.map qk.c)),(4,.row 1 34 (c26.Sel.map (wq 10 qj.c))),(5,.row 3 108 (c26.Work.map zw.c))],6⟩) (Conv.keep [1,7,2,3,4,6] [8] [4,6,7,46,47,48] rfl rfl (qx rfl rfl (qx rfl rfl (qx rfl rfl (qx rfl rfl (qx rfl rfl (qx rfl rfl qy)))))) (wv rfl rfl (wv rfl rfl (wv rfl (viewO_box (qz rfl (qz rfl (qz (view_rowT rfl rfl) (qz rfl (qz rfl qw)))))) (wv rfl rfl (wv rfl rfl (wv rfl rfl subH_nil)))))) rfl) ?_ (by simp)
   refine WK.len (t:=46) rfl (by simp) (fun ge20=>?_)
   rw [List.length_map] at ge20
   generalize gi20:F32l1 x902 (del_ c26.L i1 (IntKind.i64.wrap (i1 + 1))) c26.Over c26.T c26.Sel c26.Work x908.L = gh20 at hR
   refine WK.forK (fun k s=>∃ (i48:Nat) (k_2_7:List zz) (k_4_7:Bool) (row3:List qk) (row4:List (List qj)) (row5:List zw),i48 ≤ x908.L.length ∧ k = x908.L.length - i48 ∧ F32l1 x902 k_2_7 k_4_7 row3 row4 row5 (x908.L.drop i48) = gh20 ∧ s = ⟨[(4,.ptr 0 0),(6,.ptr 1 0),(7,.ptr 2 0),(46,.ro 10 (x908.L.map qj.c)),(47,.int .i64 (x908.L.length:Int)),(48,.int .i64 (i48:Int))],[(0,.box [.nils,.nils,.nils,.nils,.bool false]),(1,.box (zz.c x902)),(2,.box [.own 3 1 0 row3.length,.own 4 1 0 row4.length,.ro 3 (k_2_7.map zz.c),.own 5 3 0 row5.length,.bool k_4_7]),(3,.row 1 36 (row3.map qk.c)),(4,.row 1 34 (row4.map (wq 10 qj.c))),(5,.row 3 108 (row5.map zw.c))],6⟩) x908.L.length (by refine ⟨_,?_,0,(del_ c26.L i1 (IntKind.i64.wrap (i1 + 1))),c26.Over,c26.T,c26.Sel,c26.Work,(by omega),rfl,gi20,rfl⟩; exact Conv.keep [0,1,2,3,4,5] [] [4,6,7,46,47,48] rfl rfl (qx rfl rfl (qx rfl rfl (qx rfl rfl (qx rfl rfl (qx rfl rfl (qx rfl rfl qy)))))) rfl rfl) ?_
   rintro _ _ ⟨i48,k_2_7,k_4_7,row3,row4,row5,gj20,rfl,gg20,rfl⟩ gb20 gd20 gk20 ga20 gc20 gf20
   refine WK.sr qv (GX.q (.bool (decide ((i48:Int) < (x908.L.length:Int)))) (GX.done (WK.seq ?_)))
   rcases qq (decide ((i48:Int) < (x908.L.length:Int))) with hb21 | hb21
   ·rw [hb21]
    rw [drop_end hb21,F32l1] at gg20
    refine WK.condF rfl (WK.exit ?_)
    refine QF.exit (gc20 _ ?_)
    subst gg20
    replace hR:=obind_s hR; try dsimp only at hR
    refine WK.seq ?_
    refine WK.conv (st':=⟨[(4,.ptr 0 0),(6,.rptr (zz.c x902)),(7,.ptr 1 0)],[(0,.box [.nils,.nils,.nils,.nils,.bool false]),(1,.box [.own 2 1 0 row3.length,.own 3 1 0 row4.length,.ro 3 (k_2_7.map zz.c),.own 4 3 0 row5.length,.bool k_4_7]),(2,.row 1 36 (row3.map qk.c)),(3,.row 1 34 (row4.map (wq 10 qj.c))),(4,.row 3 108 (row5.map zw.c))],5⟩) (Conv.keep [0,2,3,4,5] [1] [4,6,7] rfl rfl (qx rfl rfl (qx rfl rfl (qx rfl rfl qy))) rfl rfl) ?_ (by simp)
    refine WK.drawn qv (RD.m rfl (RD.q (.ptr 1 0) (RD.q (.ptr 1 0) (RD.q (.own 2 1 0 row3.length) (RD.q (.rptr [.int .i64 x902.To,.ro 12 (x902.Map.map zx.c)]) (RD.q (.int .i64 x902.To) (RD.m rfl (RD.q (.ptr 1 0) (RD.q (.ptr 1 0) (RD.q (.own 2 1 0 row3.length) (RD.q (.rptr [.int .i64 x902.To,.ro 12 (x902.Map.map zx.c)]) (RD.q (.int .i64 x902.To) ?_))))))))))))
    obtain ⟨x922,hx922,hR⟩:=wx hR; try dsimp only at hR
    obtain ⟨hx9220,hx922j,hx922l,hx922⟩:=kx hx922
    refine RD.pure (v':=.eptr 2 1 x902.To.toNat 0) rfl rfl rfl (core_idxoT (c:=qk.c) (L:=row3) (j:=x902.To.toNat) rfl hx922j hx922l (by exact Nat.le_refl _)) rfl (RD.pure (v':=.agg (qk.c x922)) rfl rfl rfl (core_loaT (c:=qk.c) (L:=row3) (x:=x922) rfl hx922 rfl) rfl (RD.q (.fn 76 [] [.rptr (zz.c x902)]) ?_))
    obtain ⟨c78,hc78,hR⟩:=wx hR; try dsimp only at hR
    try dsimp only at hR
    refine RD.callp (r:=.agg [.ro 10 (c78.L.map qj.c)]) rfl rfl rfl (f42_ok x922 76 [] [.rptr (zz.c x902)] (fun y0=>F76 y0 x902) ⟨rfl,rfl⟩ (fun y0 _ hr=>f76_ok y0 x902 _ hr) _ hc78) rfl rfl (RD.pure (v':=.eptr 2 1 x902.To.toNat 0) rfl rfl rfl (core_idxoT (c:=qk.c) (L:=row3) (j:=x902.To.toNat) rfl hx922j hx922l (by exact Nat.le_refl _)) rfl (RD.step0 (zj:=[(0,.box [.nils,.nils,.nils,.nils,.bool false]),(1,.box [.own 2 1 0 row3.length,.own 3 1 0 row4.length,.ro 3 (k_2_7.map zz.c),.own 4 3 0 row5.length,.bool k_4_7]),(2,.row 1 36 ((row3.set x902.To.toNat c78).map qk.c)),(3,.row 1 34 (row4.map (wq 10 qj.c))),(4,.row 3 108 (row5.map zw.c))]) (zk:=5) rfl rfl (core_stoT (c:=qk.c) (L:=row3) (x:=x922) (x':=c78) rfl hx922 rfl rfl rfl rfl rfl) rfl rfl (RD.done rfl (WK.sr qv (GX.m rfl (GX.q (.ptr 1 0) (GX.q (.agg [.own 2 1 0 row3.length,.own 3 1 0 row4.length,.ro 3 (k_2_7.map zz.c),.own 4 3 0 row5.length,.bool k_4_7]) (GX.step0 (zj:=[(0,.box [.own 2 1 0 row3.length,.own 3 1 0 row4.length,.ro 3 (k_2_7.map zz.c),.own 4 3 0 row5.length,.bool k_4_7]),(1,.box [.own 2 1 0 row3.length,.own 3 1 0 row4.length,.ro 3 (k_2_7.map zz.c),.own 4 3 0 row5.length,.bool k_4_7]),(2,.row 1 36 ((row3.set x902.To.toNat c78).map qk.c)),(3,.row 1 34 (row4.map (wq 10 qj.c))),(4,.row 3 108 (row5.map zw.c))]) (zk:=5) rfl rfl rfl rfl rfl (GX.m rfl (GX.done (WK.ret ?_)))))))))))
    obtain rfl:=Option.some.inj hR
    exact RetQ.fr [2,3,4] (.inr rfl) rfl rfl (qz (viewP_agg (qz (view_rowM rfl rfl (by simp)) (qz (view_rowT rfl rfl) (qz rfl (qz (view_rowT rfl rfl) (qz rfl qw)))))) (qz rfl qw)) rfl
   ·rw [hb21]
    obtain ⟨x48,hx20,hd20,hlt20⟩:=drop_more hb21
    rw [hd20,F32l1] at gg20
    refine WK.condT rfl (WK.skip (WK.seq ?_))
    refine WK.blockK (fun _ hK24=>?_)
    refine WK.sr qv (GX.idxT (c:=qj.c) (x:=x48) rfl rfl rfl (Int.natCast_nonneg _) hx20 (GX.q (.agg (qj.c x48)) (GX.step (v':=.ptr 6 0) (zj:=[(0,.box [.nils,.nils,.nils,.nils,.bool false]),(1,.box (zz.c x902)),(2,.box [.own 3 1 0 row3.length,.own 4 1 0 row4.length,.ro 3 (k_2_7.map zz.c),.own 5 3 0 row5.length,.bool k_4_7]),(3,.row 1 36 (row3.map qk.c)),(4,.row 1 34 (row4.map (wq 10 qj.c))),(5,.row 3 108 (row5.map zw.c)),(6,.box [.int .u32 0,.int .i64 0,.int .i64 0,.int .i64 0,.int .i64 0,.int .i64 0,.int .u32 0,.bool false,.int .i64 0,.nils])]) (zk:=7) rfl rfl rfl rfl rfl rfl rfl (GX.step0 (zj:=[(0,.box [.nils,.nils,.nils,.nils,.bool false]),(1,.box (zz.c x902)),(2,.box [.own 3 1 0 row3.length,.own 4 1 0 row4.length,.ro 3 (k_2_7.map zz.c),.own 5 3 0 row5.length,.bool k_4_7]),(3,.row 1 36 (row3.map qk.c)),(4,.row 1 34 (row4.map (wq 10 qj.c))),(5,.row 3 108 (row5.map zw.c)),(6,.box (qj.c x48))]) (zk:=7) rfl rfl rfl rfl rfl (GX.done (WK.sr qv (GX.q (.agg (qj.c x48)) (GX.q (.ptr 1 0) (GX.q (.int .i64 x902.From) ?_)))))))))
    generalize hc55:F46 x48 x902.From = c55 at gg20
    try dsimp only at gg20
    refine GX.callp (r:=.bool c55) rfl rfl rfl (f46_ok x48 x902.From _ hc55) rfl rfl (GX.done ?_)
    rcases qq (c55) with hb25 | hb25
    ·rw [hb25]; try simp only [hb25,bb] at gg20
     refine WK.condF rfl (WK.skip ?_)
     refine WK.nil (QF.normal (hK24 _ ?_))
     refine WK.regx qv (GX.pure (v':=.int .i64 ((i48 + 1:Nat):Int)) rfl rfl rfl rfl (congrArg (PVal.int .i64) (wrap_up hlt20 ge20)) (GX.m rfl (GX.done ?_)))
     refine WK.nil (QF.normal ?_)
     refine ga20 _ (x908.L.length - (i48 + 1)) _ (by omega) ?_ ⟨i48 + 1,k_2_7,k_4_7,row3,row4,row5,(by omega),rfl,gg20,rfl⟩
     exact Conv.keep [0,1,2,3,4,5] [] [4,6,7,46,47,48] rfl rfl (qx rfl rfl (qx rfl rfl (qx rfl rfl (qx rfl rfl (qx rfl rfl (qx rfl rfl qy)))))) rfl rfl
    ·rw [hb25]; try simp only [hb25,bb] at gg20
     refine WK.condT rfl (WK.regx qv (GX.m rfl (GX.q (.ptr 1 1) (GX.q (.int .i64 x902.To) (GX.q (.ptr 6 0) (GX.q (.agg (zy.c x48.P)) ?_))))))
     rcases wy gg20 with ⟨_,gg20⟩ | ⟨c61,hc61,gg20⟩
     ·subst gg20
      first | replace hR:=wz hR | replace hR:=oexc_n hR
      cases hR
     try dsimp only at gg20
     try dsimp only at gg20
     refine GX.callx (r':=.tup []) (zj:=[(0,.box [.nils,.nils,.nils,.nils,.bool false]),(1,.box (zz.c x902)),(2,.box [.own 7 1 0 c61.T.length,.own 8 1 0 c61.Sel.length,.ro 3 (c61.L.map zz.c),.own 9 3 0 c61.Work.length,.bool c61.Over]),(6,.box (qj.c x48)),(9,.row 3 108 (c61.Work.map zw.c)),(8,.row 1 34 (c61.Sel.map (wq 10 qj.c))),(7,.row 1 36 (c61.T.map qk.c))]) (zk:=10) [2,3,4,5] [] rfl rfl rfl rfl rfl rfl (f68_ok (⟨row3,row4,k_2_7,row5,k_4_7⟩ : TNet) x902.To x48.P _ hc61) (.inl rfl) rfl rfl rfl (GX.done ?_)
     refine WK.nil (QF.normal (hK24 _ ?_))
     refine WK.regx qv (GX.pure (v':=.int .i64 ((i48 + 1:Nat):Int)) rfl rfl rfl rfl (congrArg (PVal.int .i64) (wrap_up hlt20 ge20)) (GX.m rfl (GX.done ?_)))
     refine WK.nil (QF.normal ?_)
     refine ga20 _ (x908.L.length - (i48 + 1)) _ (by omega) ?_ ⟨i48 + 1,c61.L,c61.Over,c61.T,c61.Sel,c61.Work,(by omega),rfl,gg20,rfl⟩
     exact Conv.keep [0,1,2,7,8,9] [] [4,6,7,46,47,48] rfl rfl (qx rfl rfl (qx rfl rfl (qx rfl rfl (qx rfl rfl (qx rfl rfl (qx rfl rfl qy)))))) rfl rfl
  ·rw [hb2]; first | replace hR:=ky hb2 hR | (try simp only [hb2,bb] at hR)
   refine WK.condT rfl (WK.sr qv (GX.q (.agg (TNet.c n0)) (GX.step0 (zj:=[(0,.box (TNet.c n0)),(1,.box (TNet.c n0))]) (zk:=2) rfl rfl rfl rfl rfl (GX.m rfl (GX.done (WK.ret ?_))))))
   obtain rfl:=Option.some.inj hR
   exact RetQ.fr [] (.inr rfl) rfl rfl rfl rfl
 ·rw [hb1]; first | replace hR:=ky hb1 hR | (try simp only [hb1,bb] at hR)
  iterate 5 refine GX.skip rfl rfl ?_
  refine GX.q (.bool true) (GX.done (WK.condT rfl (WK.sr qv (GX.q (.agg (TNet.c n0)) (GX.step0 (zj:=[(0,.box (TNet.c n0)),(1,.box (TNet.c n0))]) (zk:=2) rfl rfl rfl rfl rfl (GX.m rfl (GX.done (WK.ret ?_))))))))
  obtain rfl:=Option.some.inj hR
  exact RetQ.fr [] (.inr rfl) rfl rfl rfl rfl
theorem f14_ok (n0:TNet) (a1:TAct) (R:TNet × Int) (hR:F14 n0 a1 = some R):FnOk Tryz.prog 14 [.agg (TNet.c n0),.agg (TAct.c a1)] [] 0 (.tup [.agg (TNet.c R.1),.int .i64 R.2]) [] 0:=by
 refine FnOk.wk i14 rfl rfl ?_
 unfold F14 at hR
 try dsimp only at hR
 change WK _ _ _ [ac14] _ ⟨[(0,.agg (TNet.c n0)),(1,.agg (TAct.c a1))],[],0⟩
 unfold ac14
 refine WK.sr qv (GX.step (v':=.ptr 0 0) (zj:=[(0,.box (TNet.c n0))]) (zk:=1) rfl rfl rfl rfl rfl rfl rfl (GX.step (v':=.ptr 1 0) (zj:=[(0,.box (TNet.c n0)),(1,.box (TAct.c a1))]) (zk:=2) rfl rfl rfl rfl rfl rfl rfl (GX.step (v':=.ptr 2 0) (zj:=[(0,.box (TNet.c n0)),(1,.box (TAct.c a1)),(2,.box [.nils,.nils,.nils,.nils,.bool false])]) (zk:=3) rfl rfl rfl rfl rfl rfl rfl (GX.m rfl (GX.done (WK.seq (WK.sr qv (GX.q (.ptr 1 0) (GX.q (.int .i64 a1.Kind) (GX.done ?_))))))))))
 refine WK.blockK (fun _ hK1=>?_)
 refine WK.sr qv (GX.q (.bool (decide (a1.Kind = 1))) (GX.m rfl (GX.done ?_)))
 rcases qq (decide (a1.Kind = 1)) with hb2 | hb2
 ·rw [hb2]; first | replace hR:=kz hb2 hR | (try simp only [hb2,bb] at hR)
  refine WK.condF rfl (WK.sr qv (GX.q (.bool (decide (a1.Kind = 2))) (GX.m rfl (GX.done ?_))))
  rcases qq (decide (a1.Kind = 2)) with hb3 | hb3
  ·rw [hb3]; first | replace hR:=kz hb3 hR | (try simp only [hb3,bb] at hR)
   refine WK.condF rfl (WK.sr qv (GX.q (.bool (decide (a1.Kind = 3))) (GX.m rfl (GX.done ?_))))
   rcases qq (decide (a1.Kind = 3)) with hb4 | hb4
   ·rw [hb4]; first | replace hR:=kz hb4 hR | (try simp only [hb4,bb] at hR)
    refine WK.condF rfl (WK.sr qv (GX.q (.bool (decide (a1.Kind = 4))) (GX.m rfl (GX.done ?_))))
    rcases qq (decide (a1.Kind = 4)) with hb5 | hb5
    ·rw [hb5]; first | replace hR:=kz hb5 hR | (try simp only [hb5,bb] at hR)
     refine WK.condF rfl (WK.skip ?_)
     refine WK.nil (QF.normal (hK1 _ ?_))
     refine WK.sr qv (GX.q (.agg (TNet.c n0)) (GX.q (.ptr 1 2) (GX.q (.int .i64 a1.To) ?_)))
     obtain ⟨c54,hc54,hR⟩:=wx hR; try dsimp only at hR
     refine GX.callp (r:=.tup [.agg (TNet.c c54.1),.bool c54.2]) rfl rfl rfl (f28_ok n0 a1.To _ hc54) rfl rfl (GX.m rfl (GX.q (.agg (TNet.c c54.1)) (GX.q (.bool c54.2) (GX.step (v':=.ptr 3 0) (zj:=[(0,.box (TNet.c n0)),(1,.box (TAct.c a1)),(2,.box [.nils,.nils,.nils,.nils,.bool false]),(3,.box [.nils,.nils,.nils,.nils,.bool false])]) (zk:=4) rfl rfl rfl rfl rfl rfl rfl (GX.step0 (zj:=[(0,.box (TNet.c n0)),(1,.box (TAct.c a1)),(2,.box [.nils,.nils,.nils,.nils,.bool false]),(3,.box (TNet.c c54.1))]) (zk:=4) rfl rfl rfl rfl rfl (GX.m rfl (GX.done (WK.sr qv (GX.q (.agg (TNet.c c54.1)) (GX.step0 (zj:=[(0,.box (TNet.c n0)),(1,.box (TAct.c a1)),(2,.box (TNet.c c54.1)),(3,.box (TNet.c c54.1))]) (zk:=4) rfl rfl rfl rfl rfl (GX.m rfl (GX.done (WK.ret ?_)))))))))))))
     obtain rfl:=Option.some.inj hR
     exact RetQ.fr [] (.inr rfl) rfl rfl rfl rfl
    ·rw [hb5]; first | replace hR:=ky hb5 hR | (try simp only [hb5,bb] at hR)
     refine WK.condT rfl (WK.sr qv (GX.q (.agg (TNet.c n0)) (GX.q (.ptr 1 1) (GX.q (.int .i64 a1.At) ?_))))
     obtain ⟨c47,hc47,hR⟩:=wx hR; try dsimp only at hR
     refine GX.callp (r:=.tup [.agg (TNet.c c47.1),.int .i64 c47.2]) rfl rfl rfl (f32_ok n0 a1.At _ hc47) rfl rfl (GX.q (.agg (TNet.c c47.1)) (GX.q (.int .i64 c47.2) (GX.step0 (zj:=[(0,.box (TNet.c n0)),(1,.box (TAct.c a1)),(2,.box (TNet.c c47.1))]) (zk:=3) rfl rfl rfl rfl rfl (GX.m rfl (GX.done (WK.ret (QF.ret ?_)))))))
     obtain rfl:=Option.some.inj hR
     exact RetQ.fr [] (.inr rfl) rfl rfl rfl rfl
   ·rw [hb4]; first | replace hR:=ky hb4 hR | (try simp only [hb4,bb] at hR)
    refine WK.condT rfl (WK.sr qv (GX.q (.agg (TNet.c n0)) (GX.q (.ptr 1 1) (GX.q (.int .i64 a1.At) (GX.q (.ptr 1 2) (GX.q (.int .i64 a1.To) (GX.q (.ptr 1 13) (GX.q (.ro 12 (a1.Map.map zx.c)) ?_))))))))
    obtain ⟨c39,hc39,hR⟩:=wx hR; try dsimp only at hR
    refine GX.callp (r:=.tup [.agg (TNet.c c39.1),.int .i64 c39.2]) rfl rfl rfl (f25_ok n0 a1.At a1.To a1.Map _ hc39) rfl rfl (GX.q (.agg (TNet.c c39.1)) (GX.q (.int .i64 c39.2) (GX.step0 (zj:=[(0,.box (TNet.c n0)),(1,.box (TAct.c a1)),(2,.box (TNet.c c39.1))]) (zk:=3) rfl rfl rfl rfl rfl (GX.m rfl (GX.done (WK.ret (QF.ret ?_)))))))
    obtain rfl:=Option.some.inj hR
    exact RetQ.fr [] (.inr rfl) rfl rfl rfl rfl
  ·rw [hb3]; first | replace hR:=ky hb3 hR | (try simp only [hb3,bb] at hR)
   refine WK.condT rfl (WK.sr qv (GX.q (.agg (TNet.c n0)) (GX.q (.ptr 1 1) (GX.q (.int .i64 a1.At) (GX.q (.ptr 1 3) (GX.q (.agg (qj.c a1.C)) ?_))))))
   obtain ⟨c27,hc27,hR⟩:=wx hR; try dsimp only at hR
   refine GX.callp (r:=.tup [.agg (TNet.c c27.1),.int .i64 c27.2]) rfl rfl rfl (f31_ok n0 a1.At a1.C _ hc27) rfl rfl (GX.q (.agg (TNet.c c27.1)) (GX.q (.int .i64 c27.2) (GX.step0 (zj:=[(0,.box (TNet.c n0)),(1,.box (TAct.c a1)),(2,.box (TNet.c c27.1))]) (zk:=3) rfl rfl rfl rfl rfl (GX.m rfl (GX.done (WK.ret (QF.ret ?_)))))))
   obtain rfl:=Option.some.inj hR
   exact RetQ.fr [] (.inr rfl) rfl rfl rfl rfl
 ·rw [hb2]; first | replace hR:=ky hb2 hR | (try simp only [hb2,bb] at hR)
  refine WK.condT rfl (WK.sr qv (GX.q (.agg (TNet.c n0)) (GX.q (.ptr 1 1) (GX.q (.int .i64 a1.At) (GX.q (.ptr 1 3) (GX.q (.agg (qj.c a1.C)) ?_))))))
  obtain ⟨c17,hc17,hR⟩:=wx hR; try dsimp only at hR
  refine GX.callp (r:=.tup [.agg (TNet.c c17.1),.int .i64 c17.2]) rfl rfl rfl (f27_ok n0 a1.At a1.C _ hc17) rfl rfl (GX.q (.agg (TNet.c c17.1)) (GX.q (.int .i64 c17.2) (GX.step0 (zj:=[(0,.box (TNet.c n0)),(1,.box (TAct.c a1)),(2,.box (TNet.c c17.1))]) (zk:=3) rfl rfl rfl rfl rfl (GX.m rfl (GX.done (WK.ret (QF.ret ?_)))))))
  obtain rfl:=Option.some.inj hR
  exact RetQ.fr [] (.inr rfl) rfl rfl rfl rfl
theorem f7_ok (size0:Int) (script1:List TAct) (R:TNet × Bool) (hR:F7 size0 script1 = some R):FnOk Tryz.prog 7 [.int .i64 size0,.ro 14 (script1.map TAct.c)] [] 0 (.tup [.agg (TNet.c R.1),.bool R.2]) [] 0:=by
 refine FnOk.wk i7 rfl rfl ?_
 unfold F7 at hR
 try dsimp only at hR
 change WK _ _ _ [ac7] _ ⟨[(0,.int .i64 size0),(1,.ro 14 (script1.map TAct.c))],[],0⟩
 unfold ac7
 refine WK.sr qv (GX.step (v':=.ptr 0 0) (zj:=[(0,.box [.nils,.nils,.nils,.nils,.bool false])]) (zk:=1) rfl rfl rfl rfl rfl rfl rfl (GX.m rfl (GX.done (WK.sr qv (GX.m rfl ?_)))))
 obtain ⟨c13,hc13,hR⟩:=wx hR; try dsimp only at hR
 refine GX.callp (r:=.tup [.agg (TNet.c c13.1),.int .i64 c13.2]) rfl rfl rfl (f11_ok size0 _ hc13) rfl rfl (GX.m rfl (GX.q (.agg (TNet.c c13.1)) (GX.q (.int .i64 c13.2) (GX.step (v':=.ptr 1 0) (zj:=[(0,.box [.nils,.nils,.nils,.nils,.bool false]),(1,.box [.nils,.nils,.nils,.nils,.bool false])]) (zk:=2) rfl rfl rfl rfl rfl rfl rfl (GX.step0 (zj:=[(0,.box [.nils,.nils,.nils,.nils,.bool false]),(1,.box (TNet.c c13.1))]) (zk:=2) rfl rfl rfl rfl rfl (GX.m rfl (GX.done (WK.seq (WK.sr qv (GX.m rfl (GX.done ?_)))))))))))
 rcases qq (decide (c13.2 = 0)) with hb1 | hb1
 ·first | replace hR:=kz hb1 hR | (try simp only [hb1,bb] at hR)
  refine WK.unroll 2 (WU.go ?_)
  refine WK.seq (WK.sr qv (GX.m rfl (GX.q (.bool (decide (c13.2 = 0))) (GX.m rfl ?_))))
  rw [hb1]
  iterate 4 refine GX.skip rfl rfl ?_
  refine GX.q (.bool false) (GX.m rfl (GX.skip rfl rfl (GX.skip rfl rfl (GX.q (.bool false) (GX.done (WK.condF rfl (WK.exit (QF.exit (WK.sr qv (GX.q (.agg (TNet.c c13.1)) (GX.m rfl (GX.q (.bool (decide (c13.2 = 0))) (GX.step0 (zj:=[(0,.box (TNet.c c13.1)),(1,.box (TNet.c c13.1))]) (zk:=2) rfl rfl rfl rfl rfl ?_)))))))))))))
  refine GX.m rfl (GX.done (WK.ret ?_))
  obtain rfl:=Option.some.inj hR
  exact RetQ.fr [] (.inr rfl) rfl rfl rfl rfl
 ·first | replace hR:=ky hb1 hR | (try simp only [hb1,bb] at hR)
  refine WK.len (t:=1) rfl (by simp) (fun ge8=>?_)
  rw [List.length_map] at ge8
  generalize gi8:F7l1 c13.1 0 script1 = gh8 at hR
  refine WK.forK (fun k s=>∃ (i8:Nat) (n6:TNet),i8 ≤ script1.length ∧ k = script1.length - i8 ∧ F7l1 n6 i8 (script1.drop i8) = gh8 ∧ s = ⟨[(1,.ro 14 (script1.map TAct.c)),(4,.ptr 0 0),(6,.ptr 1 0),(7,.int .i64 c13.2),(8,.int .i64 (i8:Int))],[(0,.box [.nils,.nils,.nils,.nils,.bool false]),(1,.box (TNet.c n6))],2⟩) script1.length (by refine ⟨_,?_,0,c13.1,(by omega),rfl,gi8,rfl⟩; exact Conv.keep [0,1] [] [1,4,6,7,8] rfl rfl (qx rfl rfl (qx rfl rfl (qx rfl rfl (qx rfl rfl (qx rfl rfl qy))))) rfl rfl) ?_
  rintro _ _ ⟨i8,n6,gj8,rfl,gg8,rfl⟩ gb8 gd8 gk8 ga8 gc8 gf8
  refine WK.seq (WK.sr qv (GX.m rfl (GX.q (.bool (decide (c13.2 = 0))) (GX.m rfl ?_))))
  rw [hb1]
  iterate 2 refine GX.m rfl ?_
  refine GX.pure (v':=.int .i64 (script1.length:Int)) rfl rfl rfl rfl (ww _ _) ?_
  iterate 2 refine GX.q (.bool (decide ((i8:Int) < (script1.length:Int)))) ?_
  refine GX.m rfl ?_
  rcases qq (decide ((i8:Int) < (script1.length:Int))) with hb9 | hb9
  ·rw [hb9]
   rw [drop_end hb9,F7l1] at gg8
   refine GX.skip rfl rfl (GX.skip rfl rfl (GX.q (.bool false) (GX.done (WK.condF rfl (WK.exit ?_)))))
   refine QF.exit (gc8 _ ?_)
   subst gg8
   replace hR:=obind_s hR; try dsimp only at hR
   refine WK.sr qv (GX.q (.agg (TNet.c n6)) (GX.m rfl (GX.q (.bool (decide (c13.2 = 0))) (GX.step0 (zj:=[(0,.box (TNet.c n6)),(1,.box (TNet.c n6))]) (zk:=2) rfl rfl rfl rfl rfl (GX.m rfl (GX.done (WK.ret ?_)))))))
   obtain rfl:=Option.some.inj hR
   exact RetQ.fr [] (.inr rfl) rfl rfl rfl rfl
  ·rw [hb9]
   obtain ⟨x8,hx8,hd8,hlt8⟩:=drop_more hb9
   rw [hd8,F7l1] at gg8
   refine GX.m rfl ?_
   iterate 2 refine GX.q (.bool (decide ((i8:Int) < 30))) ?_
   refine GX.done ?_
   rcases qq (decide ((i8:Int) < 30)) with hb10 | hb10
   ·rw [hb10]; try simp only [hb10,bb] at gg8
    refine WK.condF rfl (WK.exit ?_)
    refine QF.exit (gc8 _ ?_)
    subst gg8
    replace hR:=obind_s hR; try dsimp only at hR
    refine WK.sr qv (GX.q (.agg (TNet.c n6)) (GX.m rfl (GX.q (.bool (decide (c13.2 = 0))) (GX.step0 (zj:=[(0,.box (TNet.c n6)),(1,.box (TNet.c n6))]) (zk:=2) rfl rfl rfl rfl rfl (GX.m rfl (GX.done (WK.ret ?_)))))))
    obtain rfl:=Option.some.inj hR
    exact RetQ.fr [] (.inr rfl) rfl rfl rfl rfl
   ·rw [hb10]; try simp only [hb10,bb] at gg8
    refine WK.condT rfl (WK.skip (WK.seq ?_))
    refine WK.blockK (fun _ hK11=>?_)
    refine WK.sr qv (GX.m rfl (GX.m rfl (GX.idxT (c:=TAct.c) (x:=x8) rfl rfl rfl (Int.natCast_nonneg _) hx8 (GX.q (.agg (TAct.c x8)) ?_))))
    rcases wy gg8 with ⟨_,gg8⟩ | ⟨c34,hc34,gg8⟩
    ·subst gg8
     first | replace hR:=wz hR | replace hR:=oexc_n hR
     cases hR
    try dsimp only at gg8
    try dsimp only at gg8
    refine GX.callp (r:=.bool c34) rfl rfl rfl (f13_ok x8 _ hc34) rfl rfl (GX.done ?_)
    rcases qq (c34) with hb12 | hb12
    ·rw [hb12]; try simp only [hb12,bb] at gg8
     refine WK.condF rfl (WK.skip ?_)
     refine WK.nil (QF.normal (hK11 _ ?_))
     refine WK.regx qv (GX.m rfl (GX.pure (v':=.int .i64 ((i8 + 1:Nat):Int)) rfl rfl rfl rfl (congrArg (PVal.int .i64) (wrap_up hlt8 ge8)) (GX.m rfl (GX.done ?_))))
     refine WK.nil (QF.normal ?_)
     refine ga8 _ (script1.length - (i8 + 1)) _ (by omega) ?_ ⟨i8 + 1,n6,(by omega),rfl,gg8,rfl⟩
     exact Conv.keep [0,1] [] [1,4,6,7,8] rfl rfl (qx rfl rfl (qx rfl rfl (qx rfl rfl (qx rfl rfl (qx rfl rfl qy))))) rfl rfl
    ·rw [hb12]; try simp only [hb12,bb] at gg8
     refine WK.condT rfl (WK.seq (WK.drawn qv (RD.q (.agg (TNet.c n6)) (RD.m rfl (RD.m rfl (RD.idxT (c:=TAct.c) (x:=x8) rfl rfl rfl (Int.natCast_nonneg _) hx8 (RD.q (.agg (TAct.c x8)) ?_)))))))
     rcases wy gg8 with ⟨_,gg8⟩ | ⟨c41,hc41,gg8⟩
     ·subst gg8
      first | replace hR:=wz hR | replace hR:=oexc_n hR
      cases hR
     try dsimp only at gg8
     refine RD.callp (r:=.tup [.agg (TNet.c c41.1),.int .i64 c41.2]) rfl rfl rfl (f14_ok n6 x8 _ hc41) rfl rfl (RD.m rfl (RD.q (.agg (TNet.c c41.1)) (RD.q (.int .i64 c41.2) (RD.step (v':=.ptr 2 0) (zj:=[(0,.box [.nils,.nils,.nils,.nils,.bool false]),(1,.box (TNet.c n6)),(2,.box [.nils,.nils,.nils,.nils,.bool false])]) (zk:=3) rfl rfl rfl rfl rfl rfl rfl (RD.step0 (zj:=[(0,.box [.nils,.nils,.nils,.nils,.bool false]),(1,.box (TNet.c n6)),(2,.box (TNet.c c41.1))]) (zk:=3) rfl rfl rfl rfl rfl (RD.m rfl (RD.done rfl (WK.regx qv (GX.q (.agg (TNet.c c41.1)) (GX.step0 (zj:=[(0,.box [.nils,.nils,.nils,.nils,.bool false]),(1,.box (TNet.c c41.1)),(2,.box (TNet.c c41.1))]) (zk:=3) rfl rfl rfl rfl rfl (GX.done ?_)))))))))))
     refine WK.nil (QF.normal (hK11 _ ?_))
     refine WK.regx qv (GX.m rfl (GX.pure (v':=.int .i64 ((i8 + 1:Nat):Int)) rfl rfl rfl rfl (congrArg (PVal.int .i64) (wrap_up hlt8 ge8)) (GX.m rfl (GX.done ?_))))
     refine WK.nil (QF.normal ?_)
     refine ga8 _ (script1.length - (i8 + 1)) _ (by omega) ?_ ⟨i8 + 1,c41.1,(by omega),rfl,gg8,rfl⟩
     exact Conv.keep [0,1] [] [1,4,6,7,8] rfl rfl (qx rfl rfl (qx rfl rfl (qx rfl rfl (qx rfl rfl (qx rfl rfl qy))))) rfl rfl
theorem f9_ok (n0:TNet) (picks1:List Int) (R:TNet × Int) (hR:F9 n0 picks1 = some R):FnOk Tryz.prog 9 [.agg (TNet.c n0),.ro 1 (picks1.map c_i64)] [] 0 (.tup [.agg (TNet.c R.1),.int .i64 R.2]) [] 0:=by
 refine FnOk.wk i9 rfl rfl ?_
 unfold F9 at hR
 try dsimp only at hR
 change WK _ _ _ [ac9] _ ⟨[(0,.agg (TNet.c n0)),(1,.ro 1 (picks1.map c_i64))],[],0⟩
 unfold ac9
 refine WK.sr qv (GX.step (v':=.ptr 0 0) (zj:=[(0,.box (TNet.c n0))]) (zk:=1) rfl rfl rfl rfl rfl rfl rfl (GX.step (v':=.ptr 1 0) (zj:=[(0,.box (TNet.c n0)),(1,.box [.nils,.nils,.nils,.nils,.bool false])]) (zk:=2) rfl rfl rfl rfl rfl rfl rfl (GX.m rfl (GX.done (WK.sr qv (GX.m rfl (GX.done ?_)))))))
 refine WK.len (t:=1) rfl (by simp) (fun hln1_5=>?_)
 rw [List.length_map] at hln1_5
 generalize gi5:F9l1 picks1 100000 0 n0 = gh5 at hR
 refine WK.forK (fun k s=>∃ (many6:Int) (n2:TNet),F9l1 picks1 k many6 n2 = gh5 ∧ s = ⟨[(1,.ro 1 (picks1.map c_i64)),(2,.ptr 0 0),(4,.ptr 1 0),(6,.int .i64 many6)],[(0,.box (TNet.c n2)),(1,.box [.nils,.nils,.nils,.nils,.bool false])],2⟩) 100000 (by refine ⟨_,?_,0,n0,gi5,rfl⟩; exact Conv.keep [0,1] [] [1,2,4,6] rfl rfl (qx rfl rfl (qx rfl rfl (qx rfl rfl (qx rfl rfl qy)))) rfl rfl) ?_
 rintro k5 _ ⟨many6,n2,gg5,rfl⟩ gb5 gd5 gk5 ga5 gc5 gf5
 rcases k5 with _ | f5
 ·unfold F9l1 at gg5
  subst gg5
  first | replace hR:=wz hR | replace hR:=oexc_n hR
  cases hR
 unfold F9l1 at gg5; try dsimp only at gg5
 refine WK.seq ?_
 refine WK.blockK (fun _ hK6=>?_)
 refine WK.sr qv (GX.m rfl (GX.done (WK.seq (WK.sr qv (GX.m rfl (GX.m rfl (GX.pure (v':=.int .i64 (picks1.length:Int)) rfl rfl rfl rfl (ww _ _) (GX.q (.bool (decide (many6 < (picks1.length:Int)))) (GX.done ?_)))))))))
 rcases qq (decide (many6 < (picks1.length:Int))) with hb7 | hb7
 ·rw [hb7]; try simp only [hb7,bb] at gg5
  refine WK.condF rfl (WK.skip (WK.sr qv (GX.q (.agg (TNet.c n2)) (GX.m rfl ?_))))
  rcases wy gg5 with ⟨_,gg5⟩ | ⟨c23,hc23,gg5⟩
  ·subst gg5
   first | replace hR:=wz hR | replace hR:=oexc_n hR
   cases hR
  try dsimp only at gg5
  refine GX.callp (r:=.tup [.agg (TNet.c c23.1),.bool c23.2]) rfl rfl rfl (f28_ok n2 0 _ hc23) rfl rfl (GX.m rfl (GX.q (.agg (TNet.c c23.1)) (GX.q (.bool c23.2) (GX.step (v':=.ptr 2 0) (zj:=[(0,.box (TNet.c n2)),(1,.box [.nils,.nils,.nils,.nils,.bool false]),(2,.box [.nils,.nils,.nils,.nils,.bool false])]) (zk:=3) rfl rfl rfl rfl rfl rfl rfl (GX.step0 (zj:=[(0,.box (TNet.c n2)),(1,.box [.nils,.nils,.nils,.nils,.bool false]),(2,.box (TNet.c c23.1))]) (zk:=3) rfl rfl rfl rfl rfl (GX.m rfl (GX.done (WK.seq (WK.sr qv (GX.m rfl (GX.q (.bool (!c23.2)) (GX.done ?_))))))))))))
  rcases qq (c23.2) with hb8 | hb8
  ·rw [hb8]; try simp only [hb8,bb] at gg5
   refine WK.condT rfl (WK.sr qv (GX.q (.agg (TNet.c n2)) (GX.m rfl (GX.step0 (zj:=[(0,.box (TNet.c n2)),(1,.box (TNet.c n2)),(2,.box (TNet.c c23.1))]) (zk:=3) rfl rfl rfl rfl rfl (GX.m rfl (GX.done (WK.ret (QF.ret ?_))))))))
   refine QF.ret (gf5 _ _ ?_)
   subst gg5
   first | replace hR:=oexc_e hR | replace hR:=oexc_k hR | replace hR:=obind_s hR
   try dsimp only at hR
   obtain rfl:=Option.some.inj hR
   exact RetQ.fr [] (.inr rfl) rfl rfl rfl rfl
  ·rw [hb8]; try simp only [hb8,bb] at gg5
   refine WK.condF rfl (WK.skip (WK.regx qv (GX.q (.agg (TNet.c c23.1)) (GX.step0 (zj:=[(0,.box (TNet.c c23.1)),(1,.box [.nils,.nils,.nils,.nils,.bool false]),(2,.box (TNet.c c23.1))]) (zk:=3) rfl rfl rfl rfl rfl (GX.done ?_)))))
   refine WK.nil (QF.normal (hK6 _ ?_))
   refine WK.regx qv (GX.m rfl (GX.q (.int .i64 (IntKind.i64.wrap (many6 + 1))) (GX.m rfl (GX.done ?_))))
   refine WK.nil (QF.normal ?_)
   refine ga5 _ f5 _ (Nat.lt_succ_self _) ?_ ⟨(IntKind.i64.wrap (many6 + 1)),c23.1,gg5,rfl⟩
   exact Conv.keep [0,1] [] [1,2,4,6] rfl rfl (qx rfl rfl (qx rfl rfl (qx rfl rfl (qx rfl rfl qy)))) rfl rfl
 ·rw [hb7]; try simp only [hb7,bb] at gg5
  refine WK.condT rfl (WK.regx qv (GX.m rfl (GX.m rfl ?_)))
  rcases wy gg5 with ⟨_,gg5⟩ | ⟨x908,hx908,gg5⟩
  ·subst gg5
   first | replace hR:=wz hR | replace hR:=oexc_n hR
   cases hR
  try dsimp only at gg5
  obtain ⟨hx9080,hx908j,hx908l,hx908⟩:=kx hx908
  refine GX.idxT (c:=c_i64) (x:=x908) rfl rfl rfl hx9080 hx908 (GX.q (.int .i64 x908) (GX.m rfl (GX.done (WK.sr qv (GX.q (.agg (TNet.c n2)) (GX.m rfl ?_))))))
  rcases wy gg5 with ⟨_,gg5⟩ | ⟨c23,hc23,gg5⟩
  ·subst gg5
   first | replace hR:=wz hR | replace hR:=oexc_n hR
   cases hR
  try dsimp only at gg5
  refine GX.callp (r:=.tup [.agg (TNet.c c23.1),.bool c23.2]) rfl rfl rfl (f28_ok n2 x908 _ hc23) rfl rfl (GX.m rfl (GX.q (.agg (TNet.c c23.1)) (GX.q (.bool c23.2) (GX.step (v':=.ptr 2 0) (zj:=[(0,.box (TNet.c n2)),(1,.box [.nils,.nils,.nils,.nils,.bool false]),(2,.box [.nils,.nils,.nils,.nils,.bool false])]) (zk:=3) rfl rfl rfl rfl rfl rfl rfl (GX.step0 (zj:=[(0,.box (TNet.c n2)),(1,.box [.nils,.nils,.nils,.nils,.bool false]),(2,.box (TNet.c c23.1))]) (zk:=3) rfl rfl rfl rfl rfl (GX.m rfl (GX.done (WK.seq (WK.sr qv (GX.m rfl (GX.q (.bool (!c23.2)) (GX.done ?_))))))))))))
  rcases qq (c23.2) with hb10 | hb10
  ·rw [hb10]; try simp only [hb10,bb] at gg5
   refine WK.condT rfl (WK.sr qv (GX.q (.agg (TNet.c n2)) (GX.m rfl (GX.step0 (zj:=[(0,.box (TNet.c n2)),(1,.box (TNet.c n2)),(2,.box (TNet.c c23.1))]) (zk:=3) rfl rfl rfl rfl rfl (GX.m rfl (GX.done (WK.ret (QF.ret ?_))))))))
   refine QF.ret (gf5 _ _ ?_)
   subst gg5
   first | replace hR:=oexc_e hR | replace hR:=oexc_k hR | replace hR:=obind_s hR
   try dsimp only at hR
   obtain rfl:=Option.some.inj hR
   exact RetQ.fr [] (.inr rfl) rfl rfl rfl rfl
  ·rw [hb10]; try simp only [hb10,bb] at gg5
   refine WK.condF rfl (WK.skip (WK.regx qv (GX.q (.agg (TNet.c c23.1)) (GX.step0 (zj:=[(0,.box (TNet.c c23.1)),(1,.box [.nils,.nils,.nils,.nils,.bool false]),(2,.box (TNet.c c23.1))]) (zk:=3) rfl rfl rfl rfl rfl (GX.done ?_)))))
   refine WK.nil (QF.normal (hK6 _ ?_))
   refine WK.regx qv (GX.m rfl (GX.q (.int .i64 (IntKind.i64.wrap (many6 + 1))) (GX.m rfl (GX.done ?_))))
   refine WK.nil (QF.normal ?_)
   refine ga5 _ f5 _ (Nat.lt_succ_self _) ?_ ⟨(IntKind.i64.wrap (many6 + 1)),c23.1,gg5,rfl⟩
   exact Conv.keep [0,1] [] [1,2,4,6] rfl rfl (qx rfl rfl (qx rfl rfl (qx rfl rfl (qx rfl rfl qy)))) rfl rfl
theorem f26_ok  (R:(List zx)) (hR:F26 = some R):FnOk Tryz.prog 26 [] [] 0 (.ro 12 (R.map zx.c)) [] 0:=by
 refine FnOk.wk i26 rfl rfl ?_
 unfold F26 at hR
 try dsimp only at hR
 change WK _ _ _ [ac26] _ ⟨[],[],0⟩
 unfold ac26
 refine WK.sr qv (GX.m rfl (GX.done (WK.seq (WK.drawn qv (RD.pureW (v':=.agg [.int .i64 1,.bool true,.ro 6 (([]:List zv).map zv.c),.int .i64 (-1),.int .i64 0,.int .i64 16777215,.ro 1 (([]:List Int).map c_u32),.int .i64 (-1),.int .i64 0,.int .i64 (-1),.bool false,.int .u32 0]) rfl rfl rfl rfl (.agg (.cons .refl (.cons .refl (.cons .nil (.cons .refl (.cons .refl (.cons .refl (.cons .nil .refl)))))))) (RD.step (v':=.own 0 12 0 (([(⟨1,true,([]:List zv),(-1),0,16777215,([]:List Int),(-1),0,(-1),false,0⟩ : zx)]:List zx)).length) (zj:=[(0,.row 12 93 (([(⟨1,true,([]:List zv),(-1),0,16777215,([]:List Int),(-1),0,(-1),false,0⟩ : zx)]:List zx).map zx.c))]) (zk:=1) rfl rfl rfl rfl rfl rfl rfl (RD.pure (v':=.own 0 12 0 (([(⟨1,true,([]:List zv),(-1),0,16777215,([]:List Int),(-1),0,(-1),false,0⟩ : zx)]:List zx)).length) rfl rfl rfl rfl rfl (RD.done0 (WK.ret ?_)))))))))
 obtain rfl:=Option.some.inj hR
 exact RetQ.fr [0] (.inr rfl) rfl rfl (qz (view_rowT rfl rfl) qw) rfl
theorem f8_ok  (R:Bool) (hR:F8 = some R):FnOk Tryz.prog 8 [] [] 0 (.bool R) [] 0:=by
 refine FnOk.wk i8 rfl rfl ?_
 unfold F8 at hR
 try dsimp only at hR
 change WK _ _ _ [ac8] _ ⟨[],[],0⟩
 unfold ac8
 refine WK.sr qv (GX.m rfl (GX.done (WK.sr qv ?_)))
 obtain ⟨c7,hc7,hR⟩:=wx hR; try dsimp only at hR
 refine GX.callp (r:=.tup [.agg (TNet.c c7.1),.int .i64 c7.2]) rfl rfl rfl (f11_ok 2 _ hc7) rfl rfl (GX.m rfl (GX.q (.agg (TNet.c c7.1)) (GX.q (.int .i64 c7.2) (GX.step (v':=.ptr 0 0) (zj:=[(0,.box [.nils,.nils,.nils,.nils,.bool false])]) (zk:=1) rfl rfl rfl rfl rfl rfl rfl (GX.step0 (zj:=[(0,.box (TNet.c c7.1))]) (zk:=1) rfl rfl rfl rfl rfl (GX.m rfl (GX.done (WK.seq (WK.drawn qv (RD.q (.agg (TNet.c c7.1)) ?_))))))))))
 obtain ⟨c12,hc12,hR⟩:=wx hR; try dsimp only at hR
 try dsimp only at hR
 refine RD.callp (r:=.ro 12 (c12.map zx.c)) rfl rfl rfl (f26_ok  _ hc12) rfl rfl ?_
 obtain ⟨c13,hc13,hR⟩:=wx hR; try dsimp only at hR
 refine RD.callp (r:=.tup [.agg (TNet.c c13.1),.int .i64 c13.2]) rfl rfl rfl (f25_ok c7.1 0 1 c12 _ hc13) rfl rfl (RD.m rfl (RD.q (.agg (TNet.c c13.1)) (RD.q (.int .i64 c13.2) (RD.step0 (zj:=[(0,.box (TNet.c c13.1))]) (zk:=1) rfl rfl rfl rfl rfl (RD.m rfl (RD.done rfl (WK.seq (WK.drawn qv (RD.pure (v':=.agg (TNet.c c13.1)) rfl rfl rfl rfl rfl (RD.pure (v':=.agg [.int .i64 1,.int .u32 0]) rfl rfl rfl rfl rfl (RD.bsro (es:=(([(⟨1,0⟩ : THop)]:List THop)).map THop.c) rfl rfl rfl rfl (RD.pure (v':=.agg [.int .u32 0,.int .i64 0,.int .i64 2,.int .i64 0,.int .i64 110,.int .i64 0,.int .u32 0,.bool false,.int .i64 0,.ro 2 (([(⟨1,0⟩ : THop)]:List THop).map THop.c)]) rfl rfl rfl rfl rfl ?_))))))))))))
 obtain ⟨c21,hc21,hR⟩:=wx hR; try dsimp only at hR
 refine RD.callp (r:=.tup [.agg (TNet.c c21.1),.int .i64 c21.2]) rfl rfl rfl (f27_ok c13.1 0 (⟨(⟨0,0⟩ : zy),2,0,110,0,0,false,0,([(⟨1,0⟩ : THop)]:List THop)⟩ : qj) _ hc21) rfl rfl (RD.pure (v':=.tup [.agg (TNet.c c21.1),.int .i64 c21.2]) rfl rfl rfl rfl rfl (RD.pure (v':=.agg (TNet.c c21.1)) rfl rfl rfl rfl rfl (RD.pure (v':=.int .i64 c21.2) rfl rfl rfl rfl rfl (RD.step0 (zj:=[(0,.box (TNet.c c21.1))]) (zk:=1) rfl rfl rfl rfl rfl (RD.pure (v':=.int .i64 c21.2) rfl rfl rfl rfl rfl (RD.done0 (WK.sr qv (GX.q (.agg (TNet.c c21.1)) ?_))))))))
 obtain ⟨c26,hc26,hR⟩:=wx hR; try dsimp only at hR
 refine GX.callp (r:=.tup [.agg (TNet.c c26.1),.int .i64 c26.2]) rfl rfl rfl (FnOk.weak (f9_ok c21.1 ([]:List Int) _ hc26) (.cons .refl (.cons .nil .refl))) rfl rfl (GX.m rfl (GX.q (.agg (TNet.c c26.1)) (GX.q (.int .i64 c26.2) (GX.step0 (zj:=[(0,.box (TNet.c c26.1))]) (zk:=1) rfl rfl rfl rfl rfl (GX.m rfl (GX.done (WK.sr qv (GX.m rfl (GX.q (.bool (decide (c7.2 = 0))) (GX.m rfl ?_))))))))))
 rcases qq (decide (c7.2 = 0)) with hb1 | hb1
 ·rw [hb1]; first | replace hR:=kz hb1 hR | (try simp only [hb1,bb] at hR)
  refine GX.skip rfl rfl (GX.skip rfl rfl (GX.q (.bool false) (GX.m rfl (GX.skip rfl rfl (GX.skip rfl rfl (GX.q (.bool false) (GX.m rfl (GX.skip rfl rfl (GX.skip rfl rfl (GX.q (.bool false) (GX.m rfl ?_)))))))))))
  iterate 4 refine GX.skip rfl rfl ?_
  refine GX.q (.bool false) (GX.m rfl ?_)
  iterate 6 refine GX.skip rfl rfl ?_
  refine GX.q (.bool false) (GX.m rfl ?_)
  iterate 7 refine GX.skip rfl rfl ?_
  refine GX.q (.bool false) (GX.m rfl (GX.done (WK.ret ?_)))
  obtain rfl:=Option.some.inj hR
  exact RetQ.fr [] (.inr rfl) rfl rfl rfl rfl
 ·rw [hb1]; first | replace hR:=ky hb1 hR | (try simp only [hb1,bb] at hR)
  refine GX.m rfl ?_
  iterate 2 refine GX.q (.bool (decide (c13.2 = 0))) ?_
  refine GX.m rfl ?_
  rcases qq (decide (c13.2 = 0)) with hb2 | hb2
  ·rw [hb2]; first | replace hR:=kz hb2 hR | (try simp only [hb2,bb] at hR)
   refine GX.skip rfl rfl (GX.skip rfl rfl (GX.q (.bool false) (GX.m rfl (GX.skip rfl rfl (GX.skip rfl rfl (GX.q (.bool false) (GX.m rfl ?_)))))))
   iterate 4 refine GX.skip rfl rfl ?_
   refine GX.q (.bool false) (GX.m rfl ?_)
   iterate 6 refine GX.skip rfl rfl ?_
   refine GX.q (.bool false) (GX.m rfl ?_)
   iterate 7 refine GX.skip rfl rfl ?_
   refine GX.q (.bool false) (GX.m rfl (GX.done (WK.ret ?_)))
   obtain rfl:=Option.some.inj hR
   exact RetQ.fr [] (.inr rfl) rfl rfl rfl rfl
  ·rw [hb2]; first | replace hR:=ky hb2 hR | (try simp only [hb2,bb] at hR)
   refine GX.m rfl ?_
   iterate 2 refine GX.q (.bool (decide (c21.2 = 0))) ?_
   refine GX.m rfl ?_
   rcases qq (decide (c21.2 = 0)) with hb3 | hb3
   ·rw [hb3]; first | replace hR:=kz hb3 hR | (try simp only [hb3,bb] at hR)
    refine GX.skip rfl rfl (GX.skip rfl rfl (GX.q (.bool false) (GX.m rfl ?_)))
    iterate 4 refine GX.skip rfl rfl ?_
    refine GX.q (.bool false) (GX.m rfl ?_)
    iterate 6 refine GX.skip rfl rfl ?_
    refine GX.q (.bool false) (GX.m rfl ?_)
    iterate 7 refine GX.skip rfl rfl ?_
    refine GX.q (.bool false) (GX.m rfl (GX.done (WK.ret ?_)))
    obtain rfl:=Option.some.inj hR
    exact RetQ.fr [] (.inr rfl) rfl rfl rfl rfl
   ·rw [hb3]; first | replace hR:=ky hb3 hR | (try simp only [hb3,bb] at hR)
    refine GX.m rfl ?_
    iterate 2 refine GX.q (.bool (decide (c26.2 = 2))) ?_
    refine GX.m rfl ?_
    rcases qq (decide (c26.2 = 2)) with hb4 | hb4
    ·rw [hb4]; first | replace hR:=kz hb4 hR | (try simp only [hb4,bb] at hR)
     iterate 4 refine GX.skip rfl rfl ?_
     refine GX.q (.bool false) (GX.m rfl ?_)
     iterate 6 refine GX.skip rfl rfl ?_
     refine GX.q (.bool false) (GX.m rfl ?_)
     iterate 7 refine GX.skip rfl rfl ?_
     refine GX.q (.bool false) (GX.m rfl (GX.done (WK.ret ?_)))
     obtain rfl:=Option.some.inj hR
     exact RetQ.fr [] (.inr rfl) rfl rfl rfl rfl
    ·rw [hb4]; first | replace hR:=ky hb4 hR | (try simp only [hb4,bb] at hR)
     refine GX.q (.ptr 0 1) (GX.q (.ro 1 (c26.1.Sel.map (wq 10 qj.c))) (GX.pure (v':=.int .i64 (c26.1.Sel.length:Int)) rfl rfl rfl rfl (ww _ _) (GX.q (.bool (decide ((c26.1.Sel.length:Int) = 2))) (GX.q (.bool (decide ((c26.1.Sel.length:Int) = 2))) (GX.m rfl ?_)))))
     rcases qq (decide ((c26.1.Sel.length:Int) = 2)) with hb5 | hb5
     ·rw [hb5]; first | replace hR:=kz hb5 hR | (try simp only [hb5,bb] at hR)
      iterate 6 refine GX.skip rfl rfl ?_
      refine GX.q (.bool false) (GX.m rfl ?_)
      iterate 7 refine GX.skip rfl rfl ?_
      refine GX.q (.bool false) (GX.m rfl (GX.done (WK.ret ?_)))
      obtain rfl:=Option.some.inj hR
      exact RetQ.fr [] (.inr rfl) rfl rfl rfl rfl
     ·rw [hb5]; first | replace hR:=ky hb5 hR | (try simp only [hb5,bb] at hR)
      refine GX.q (.ptr 0 1) (GX.q (.ro 1 (c26.1.Sel.map (wq 10 qj.c))) ?_)
      obtain ⟨x905,hx905,hR⟩:=wx hR; try dsimp only at hR
      obtain ⟨hx9050,hx905j,hx905l,hx905⟩:=kx hx905
      refine GX.idxT (c:=(wq 10 qj.c)) (x:=x905) rfl rfl rfl hx9050 hx905 (GX.q (.ro 10 (x905.map qj.c)) (GX.pure (v':=.int .i64 (x905.length:Int)) rfl rfl rfl rfl (ww _ _) (GX.q (.bool (decide ((x905.length:Int) = 1))) (GX.q (.bool (decide ((x905.length:Int) = 1))) (GX.m rfl ?_)))))
      rcases qq (decide ((x905.length:Int) = 1)) with hb7 | hb7
      ·rw [hb7]; first | replace hR:=kz hb7 hR | (try simp only [hb7,bb] at hR)
       iterate 7 refine GX.skip rfl rfl ?_
       refine GX.q (.bool false) (GX.m rfl (GX.done (WK.ret ?_)))
       obtain rfl:=Option.some.inj hR
       exact RetQ.fr [] (.inr rfl) rfl rfl rfl rfl
      ·rw [hb7]; first | replace hR:=ky hb7 hR | (try simp only [hb7,bb] at hR)
       refine GX.q (.ptr 0 1) (GX.q (.ro 1 (c26.1.Sel.map (wq 10 qj.c))) (GX.idxT (c:=(wq 10 qj.c)) (x:=x905) rfl rfl rfl hx9050 hx905 (GX.q (.ro 10 (x905.map qj.c)) ?_)))
       obtain ⟨x907,hx907,hR⟩:=wx hR; try dsimp only at hR
       obtain ⟨hx9070,hx907j,hx907l,hx907⟩:=kx hx907
       refine GX.idxT (c:=qj.c) (x:=x907) rfl rfl rfl hx9070 hx907 (GX.q (.rptr [.bool x907.Leaked,.int .i64 x907.From,.ro 2 (x907.Hops.map THop.c)]) (GX.q (.bool x907.Leaked) (GX.q (.bool x907.Leaked) (GX.m rfl (GX.done (WK.ret ?_))))))
       obtain rfl:=Option.some.inj hR
       exact RetQ.fr [] (.inr rfl) rfl rfl rfl rfl
theorem f110_ok (is0:Bool) (R:Int) (hR:F110 is0 = R):FnOk Tryz.prog 110 [.bool is0] [] 0 (.int .i64 R) [] 0:=by
 refine FnOk.wk i110 rfl rfl ?_
 unfold F110 at hR
 change WK _ _ _ [ac110] _ ⟨[(0,.bool is0)],[],0⟩
 unfold ac110
 refine WK.sr qv (GX.m rfl (GX.done (WK.seq (WK.sr qv (GX.m rfl (GX.done ?_))))))
 rcases qq (is0) with hb1 | hb1
 ·rw [hb1]; try simp only [hb1,bb] at hR
  refine WK.condF rfl (WK.skip (WK.sr qv (GX.m rfl (GX.done (WK.ret ?_)))))
  subst hR
  exact RetQ.fr [] (.inr rfl) rfl rfl rfl rfl
 ·rw [hb1]; try simp only [hb1,bb] at hR
  refine WK.condT rfl (WK.sr qv (GX.m rfl (GX.done (WK.ret ?_))))
  subst hR
  exact RetQ.fr [] (.inr rfl) rfl rfl rfl rfl
theorem f72_ok (c0:qj) (R:TS) (hR:F72 c0 = R):FnOk Tryz.prog 72 [.agg (qj.c c0)] [] 0 (.agg (TS.c R)) [] 0:=by
 refine FnOk.wk i72 rfl rfl ?_
 unfold F72 at hR
 change WK _ _ _ [ac72] _ ⟨[(0,.agg (qj.c c0))],[],0⟩
 unfold ac72
 refine WK.sr qv (GX.step (v':=.ptr 0 0) (zj:=[(0,.box (qj.c c0))]) (zk:=1) rfl rfl rfl rfl rfl rfl rfl (GX.step (v':=.ptr 1 0) (zj:=[(0,.box (qj.c c0)),(1,.box [.int .i64 0,.int .i64 0,.int .i64 0,.int .i64 0,.int .i64 0,.int .i64 0])]) (zk:=2) rfl rfl rfl rfl rfl rfl rfl (GX.done (WK.seq (WK.drawn qv (RD.q (.ptr 0 0) (RD.q (.ptr 0 0) (RD.q (.int .u32 c0.P.A) (RD.q (.int .i64 (IntKind.i64.wrap c0.P.A)) (RD.q (.ptr 0 0) (RD.q (.ptr 0 1) (RD.q (.int .i64 c0.P.N) (RD.q (.ptr 0 7) ?_)))))))))))))
 refine RD.q (.bool c0.Leaked) ?_
 generalize hc12:F110 c0.Leaked = c12 at hR
 try dsimp only at hR
 refine RD.callp (r:=.int .i64 c12) rfl rfl rfl (f110_ok c0.Leaked _ hc12) rfl rfl (RD.q (.ptr 0 8) (RD.q (.int .i64 c0.From) (RD.q (.ptr 0 2) (RD.q (.int .i64 c0.Proto) (RD.q (.ptr 0 3) (RD.q (.int .i64 c0.Inst) (RD.q (.agg [.int .i64 (IntKind.i64.wrap c0.P.A),.int .i64 c0.P.N,.int .i64 c12,.int .i64 c0.From,.int .i64 c0.Proto,.int .i64 c0.Inst]) (RD.step0 (zj:=[(0,.box (qj.c c0)),(1,.box [.int .i64 (IntKind.i64.wrap c0.P.A),.int .i64 c0.P.N,.int .i64 c12,.int .i64 c0.From,.int .i64 c0.Proto,.int .i64 c0.Inst])]) (zk:=2) rfl rfl rfl rfl rfl (RD.done rfl (WK.ret ?_))))))))))
 subst hR
 exact RetQ.fr [] (.inr rfl) rfl rfl rfl rfl
theorem f73_ok (a0:List THop) (b1:List THop) (R:Bool) (hR:F73 a0 b1 = R):FnOk Tryz.prog 73 [.ro 2 (a0.map THop.c),.ro 2 (b1.map THop.c)] [] 0 (.bool R) [] 0:=by
 refine FnOk.wk i73 rfl rfl ?_
 unfold F73 at hR
 change WK _ _ _ [ac73] _ ⟨[(0,.ro 2 (a0.map THop.c)),(1,.ro 2 (b1.map THop.c))],[],0⟩
 unfold ac73
 refine WK.sr qv (GX.m rfl (GX.done (WK.seq (WK.sr qv (GX.m rfl (GX.pure (v':=.int .i64 (a0.length:Int)) rfl rfl rfl rfl (ww _ _) (GX.m rfl (GX.pure (v':=.int .i64 (b1.length:Int)) rfl rfl rfl rfl (ww _ _) (GX.q (.bool (!decide ((a0.length:Int) = (b1.length:Int)))) (GX.done ?_))))))))))
 rcases qq (decide ((a0.length:Int) = (b1.length:Int))) with hb1 | hb1
 ·rw [hb1]; try simp only [hb1,bb] at hR
  refine WK.condT rfl (WK.sr qv (GX.m rfl (GX.done (WK.ret ?_))))
  subst hR
  exact RetQ.fr [] (.inr rfl) rfl rfl rfl rfl
 ·rw [hb1]; try simp only [hb1,bb] at hR
  refine WK.condF rfl (WK.skip (WK.seq (WK.sr qv (GX.m rfl (GX.done ?_)))))
  refine WK.len (t:=0) rfl (by simp) (fun ge2=>?_)
  rw [List.length_map] at ge2
  generalize gi2:F73l1 b1 0 a0 = gh2 at hR
  refine WK.forK (fun k s=>∃ (i5:Nat),i5 ≤ a0.length ∧ k = a0.length - i5 ∧ F73l1 b1 i5 (a0.drop i5) = gh2 ∧ s = ⟨[(0,.ro 2 (a0.map THop.c)),(1,.ro 2 (b1.map THop.c)),(5,.int .i64 (i5:Int))],[],0⟩) a0.length (by refine ⟨_,?_,0,(by omega),rfl,gi2,rfl⟩; exact Conv.keep [] [] [0,1,5] rfl rfl (qx rfl rfl (qx rfl rfl (qx rfl rfl qy))) rfl rfl) ?_
  rintro _ _ ⟨i5,gj2,rfl,gg2,rfl⟩ gb2 gd2 gk2 ga2 gc2 gf2
  refine WK.seq (WK.sr qv (GX.m rfl (GX.m rfl (GX.pure (v':=.int .i64 (a0.length:Int)) rfl rfl rfl rfl (ww _ _) (GX.q (.bool (decide ((i5:Int) < (a0.length:Int)))) (GX.done ?_))))))
  rcases qq (decide ((i5:Int) < (a0.length:Int))) with hb3 | hb3
  ·rw [hb3]
   rw [drop_end hb3,F73l1] at gg2
   refine WK.condF rfl (WK.exit ?_)
   refine QF.exit (gc2 _ ?_)
   subst gg2
   try dsimp only [cond_true,cond_false] at hR
   refine WK.sr qv (GX.m rfl (GX.done (WK.ret ?_)))
   subst hR
   exact RetQ.fr [] (.inr rfl) rfl rfl rfl rfl
  ·rw [hb3]
   obtain ⟨x5,hx2,hd2,hlt2⟩:=drop_more hb3
   rw [hd2,F73l1] at gg2
   refine WK.condT rfl (WK.skip (WK.seq ?_))
   refine WK.blockK (fun _ hK4=>?_)
   refine WK.seq (WK.drawn qv (RD.m rfl (RD.m rfl (RD.idxT (c:=THop.c) (x:=x5) rfl rfl rfl (Int.natCast_nonneg _) hx2 (RD.q (.agg (THop.c x5)) (RD.m rfl (RD.m rfl (RD.idxT (c:=THop.c) (x:=(b1.getD i5 default)) rfl rfl rfl (Int.natCast_nonneg _) (getD_at (by ((try simp only [decide_eq_true_eq,decide_eq_false_iff_not,Bool.not_eq_true,Bool.not_eq_false] at *); first | omega | (rw [wrap64_of (by omega) (by omega)]; omega) | (unfold min_ max_; (repeat' split) <;> first | omega | (rw [wrap64_of (by omega) (by omega)]; omega))))) (RD.q (.agg [.int .i64 ((b1.getD i5 default).Iface),.int .u32 ((b1.getD i5 default).Gate)]) (RD.q (.bool (!(decide (x5.Iface = (b1.getD i5 default).Iface) && (decide (x5.Gate = (b1.getD i5 default).Gate) && true)))) (RD.done rfl ?_)))))))))))
   rcases qq (decide (x5.Iface = (b1.getD i5 default).Iface) && (decide (x5.Gate = (b1.getD i5 default).Gate) && true)) with hb5 | hb5
   ·rw [hb5]; try simp only [hb5,bb] at gg2
    refine WK.condT rfl (WK.sr qv (GX.m rfl (GX.done (WK.ret (QF.ret ?_)))))
    refine QF.ret (gf2 _ _ ?_)
    subst gg2
    subst hR
    exact RetQ.fr [] (.inr rfl) rfl rfl rfl rfl
   ·rw [hb5]; try simp only [hb5,bb] at gg2
    refine WK.condF rfl (WK.skip ?_)
    refine WK.nil (QF.normal (hK4 _ ?_))
    refine WK.regx qv (GX.m rfl (GX.pure (v':=.int .i64 ((i5 + 1:Nat):Int)) rfl rfl rfl rfl (congrArg (PVal.int .i64) (wrap_up hlt2 ge2)) (GX.m rfl (GX.done ?_))))
    refine WK.nil (QF.normal ?_)
    refine ga2 _ (a0.length - (i5 + 1)) _ (by omega) ?_ ⟨i5 + 1,(by omega),rfl,gg2,rfl⟩
    exact Conv.keep [] [] [0,1,5] rfl rfl (qx rfl rfl (qx rfl rfl (qx rfl rfl qy))) rfl rfl
theorem f29_ok (a0:qj) (b1:qj) (R:Bool) (hR:F29 a0 b1 = R):FnOk Tryz.prog 29 [.agg (qj.c a0),.agg (qj.c b1)] [] 0 (.bool R) [] 0:=by
 refine FnOk.wk i29 rfl rfl ?_
 unfold F29 at hR
 change WK _ _ _ [ac29] _ ⟨[(0,.agg (qj.c a0)),(1,.agg (qj.c b1))],[],0⟩
 unfold ac29
 refine WK.sr qv (GX.step (v':=.ptr 0 0) (zj:=[(0,.box (qj.c a0))]) (zk:=1) rfl rfl rfl rfl rfl rfl rfl (GX.step (v':=.ptr 1 0) (zj:=[(0,.box (qj.c a0)),(1,.box (qj.c b1))]) (zk:=2) rfl rfl rfl rfl rfl rfl rfl (GX.m rfl (GX.done (WK.seq (WK.drawn qv (RD.q (.agg (qj.c a0)) ?_)))))))
 generalize hc6:F72 a0 = c6 at hR
 try dsimp only at hR
 refine RD.callp (r:=.agg (TS.c c6)) rfl rfl rfl (f72_ok a0 _ hc6) rfl rfl (RD.q (.agg (qj.c b1)) ?_)
 generalize hc8:F72 b1 = c8 at hR
 try dsimp only at hR
 refine RD.callp (r:=.agg (TS.c c8)) rfl rfl rfl (f72_ok b1 _ hc8) rfl rfl (RD.q (.bool (decide (c6.e0 = c8.e0) && (decide (c6.e1 = c8.e1) && (decide (c6.e2 = c8.e2) && (decide (c6.e3 = c8.e3) && (decide (c6.e4 = c8.e4) && (decide (c6.e5 = c8.e5) && true))))))) (RD.m rfl ?_))
 rcases qq ((decide (c6.e0 = c8.e0) && (decide (c6.e1 = c8.e1) && (decide (c6.e2 = c8.e2) && (decide (c6.e3 = c8.e3) && (decide (c6.e4 = c8.e4) && (decide (c6.e5 = c8.e5) && true))))))) with hb1 | hb1
 ·rw [hb1]; try simp only [hb1,bb] at hR
  iterate 5 refine RD.skip rfl rfl ?_
  refine RD.q (.bool false) (RD.m rfl ?_)
  iterate 5 refine RD.skip rfl rfl ?_
  refine RD.q (.bool false) (RD.m rfl ?_)
  iterate 5 refine RD.skip rfl rfl ?_
  refine RD.q (.bool false) (RD.m rfl ?_)
  iterate 5 refine RD.skip rfl rfl ?_
  refine RD.q (.bool false) (RD.m rfl (RD.doneB [0,1,0,7,15,31,63,127,63,319,1023,2047,4095,8191,16383,8191,40959,131071,262143,524287,1048575,2097151,1048575,5242879,16777215,33554431,67108863,134217727,268435455,134217727,671088639,2147483647,4294967295,8589934591] (by kernel_rfl) (by kernel_rfl) (by kernel_rfl) (WK.ret ?_)))
  subst hR
  exact RetQ.fr [] (.inr rfl) rfl rfl rfl rfl
 ·rw [hb1]; try simp only [hb1,bb] at hR
  refine RD.q (.ptr 0 4) (RD.q (.int .i64 a0.Dist) (RD.q (.ptr 1 4) (RD.q (.int .i64 b1.Dist) (RD.q (.bool (decide (a0.Dist = b1.Dist))) (RD.q (.bool (decide (a0.Dist = b1.Dist))) (RD.m rfl ?_))))))
  rcases qq (decide (a0.Dist = b1.Dist)) with hb2 | hb2
  ·rw [hb2]; try simp only [hb2,bb] at hR
   iterate 5 refine RD.skip rfl rfl ?_
   refine RD.q (.bool false) (RD.m rfl ?_)
   iterate 5 refine RD.skip rfl rfl ?_
   refine RD.q (.bool false) (RD.m rfl ?_)
   iterate 5 refine RD.skip rfl rfl ?_
   refine RD.q (.bool false) (RD.m rfl (RD.doneB [0,1,0,7,15,31,63,127,63,319,1023,2047,4095,8191,16383,8191,40959,131071,262143,524287,1048575,2097151,1048575,5242879,16777215,33554431,67108863,134217727,268435455,134217727,671088639,2147483647,4294967295,8589934591] (by kernel_rfl) (by kernel_rfl) (by kernel_rfl) (WK.ret ?_)))
   subst hR
   exact RetQ.fr [] (.inr rfl) rfl rfl rfl rfl
  ·rw [hb2]; try simp only [hb2,bb] at hR
   refine RD.q (.ptr 0 5) (RD.q (.int .i64 a0.Metric) (RD.q (.ptr 1 5) (RD.q (.int .i64 b1.Metric) (RD.q (.bool (decide (a0.Metric = b1.Metric))) (RD.q (.bool (decide (a0.Metric = b1.Metric))) (RD.m rfl ?_))))))
   rcases qq (decide (a0.Metric = b1.Metric)) with hb3 | hb3
   ·rw [hb3]; try simp only [hb3,bb] at hR
    iterate 5 refine RD.skip rfl rfl ?_
    refine RD.q (.bool false) (RD.m rfl ?_)
    iterate 5 refine RD.skip rfl rfl ?_
    refine RD.q (.bool false) (RD.m rfl (RD.doneB [0,1,0,7,15,31,63,127,63,319,1023,2047,4095,8191,16383,8191,40959,131071,262143,524287,1048575,2097151,1048575,5242879,16777215,33554431,67108863,134217727,268435455,134217727,671088639,2147483647,4294967295,8589934591] (by kernel_rfl) (by kernel_rfl) (by kernel_rfl) (WK.ret ?_)))
    subst hR
    exact RetQ.fr [] (.inr rfl) rfl rfl rfl rfl
   ·rw [hb3]; try simp only [hb3,bb] at hR
    refine RD.q (.ptr 0 6) (RD.q (.int .u32 a0.Tag) (RD.q (.ptr 1 6) (RD.q (.int .u32 b1.Tag) (RD.q (.bool (decide (a0.Tag = b1.Tag))) (RD.q (.bool (decide (a0.Tag = b1.Tag))) (RD.m rfl ?_))))))
    rcases qq (decide (a0.Tag = b1.Tag)) with hb4 | hb4
    ·rw [hb4]; try simp only [hb4,bb] at hR
     iterate 5 refine RD.skip rfl rfl ?_
     refine RD.q (.bool false) (RD.m rfl (RD.doneB [0,1,0,7,15,31,63,127,63,319,1023,2047,4095,8191,16383,8191,40959,131071,262143,524287,1048575,2097151,1048575,5242879,16777215,33554431,67108863,134217727,268435455,134217727,671088639,2147483647,4294967295,8589934591] (by kernel_rfl) (by kernel_rfl) (by kernel_rfl) (WK.ret ?_)))
     subst hR
     exact RetQ.fr [] (.inr rfl) rfl rfl rfl rfl
    ·rw [hb4]; try simp only [hb4,bb] at hR
     refine RD.q (.ptr 0 9) (RD.q (.ro 2 (a0.Hops.map THop.c)) (RD.q (.ptr 1 9) (RD.q (.ro 2 (b1.Hops.map THop.c)) ?_)))
     generalize hc36:F73 a0.Hops b1.Hops = c36 at hR
     try dsimp only at hR
     refine RD.callp (r:=.bool c36) rfl rfl rfl (f73_ok a0.Hops b1.Hops _ hc36) rfl rfl (RD.q (.bool c36) (RD.m rfl (RD.doneB [0,1,0,7,15,31,63,127,63,319,1023,2047,4095,8191,16383,8191,40959,131071,262143,524287,1048575,2097151,1048575,5242879,16777215,33554431,67108863,134217727,268435455,134217727,671088639,2147483647,4294967295,8589934591] (by kernel_rfl) (by kernel_rfl) (by kernel_rfl) (WK.ret ?_))))
     subst hR
     exact RetQ.fr [] (.inr rfl) rfl rfl rfl rfl
theorem f30_ok (c0:qj) (R:qj) (hR:F30 c0 = some R):FnOk Tryz.prog 30 [.agg (qj.c c0)] [] 0 (.agg (qj.c R)) [] 0:=by
 refine FnOk.wk i30 rfl rfl ?_
 unfold F30 at hR
 try dsimp only at hR
 change WK _ _ _ [ac30] _ ⟨[(0,.agg (qj.c c0))],[],0⟩
 unfold ac30
 refine WK.sr qv (GX.step (v':=.ptr 0 0) (zj:=[(0,.box (qj.c c0))]) (zk:=1) rfl rfl rfl rfl rfl rfl rfl (GX.step (v':=.ptr 1 0) (zj:=[(0,.box (qj.c c0)),(1,.box [.int .u32 0,.int .i64 0,.int .i64 0,.int .i64 0,.int .i64 0,.int .i64 0,.int .u32 0,.bool false,.int .i64 0,.nils])]) (zk:=2) rfl rfl rfl rfl rfl rfl rfl (GX.done (WK.sr qv (GX.step (v':=.own 2 2 0 (([]:List THop)).length) (zj:=[(0,.box (qj.c c0)),(1,.box [.int .u32 0,.int .i64 0,.int .i64 0,.int .i64 0,.int .i64 0,.int .i64 0,.int .u32 0,.bool false,.int .i64 0,.nils]),(2,.row 2 147 (([]:List THop).map THop.c))]) (zk:=3) rfl rfl rfl rfl rfl rfl rfl (GX.m rfl (GX.done (WK.seq (WK.sr qv (GX.m rfl (GX.done ?_)))))))))))
 refine WK.lenb (id:=0) (j:=9) rfl rfl (by simp) (fun ge4=>?_)
 rw [List.length_map] at ge4
 generalize gi4:F30l1 ([]:List THop) c0.Hops = gh4 at hR
 refine WK.forK (fun k s=>∃ (i4:Nat) (h3:List THop),i4 ≤ c0.Hops.length ∧ k = c0.Hops.length - i4 ∧ F30l1 h3 (c0.Hops.drop i4) = gh4 ∧ s = ⟨[(1,.ptr 0 0),(2,.ptr 1 0),(3,.own 2 2 0 h3.length),(4,.int .i64 (i4:Int))],[(0,.box (qj.c c0)),(1,.box [.int .u32 0,.int .i64 0,.int .i64 0,.int .i64 0,.int .i64 0,.int .i64 0,.int .u32 0,.bool false,.int .i64 0,.nils]),(2,.row 2 147 (h3.map THop.c))],3⟩) c0.Hops.length (by refine ⟨_,?_,0,([]:List THop),(by omega),rfl,gi4,rfl⟩; exact Conv.keep [0,1,2] [] [1,2,3,4] rfl rfl (qx rfl rfl (qx rfl rfl (qx rfl rfl (qx rfl rfl qy)))) rfl rfl) ?_
 rintro _ _ ⟨i4,h3,gj4,rfl,gg4,rfl⟩ gb4 gd4 gk4 ga4 gc4 gf4
 refine WK.seq (WK.sr qv (GX.m rfl (GX.q (.ptr 0 9) (GX.q (.ro 2 (c0.Hops.map THop.c)) (GX.pure (v':=.int .i64 (c0.Hops.length:Int)) rfl rfl rfl rfl (ww _ _) (GX.q (.bool (decide ((i4:Int) < (c0.Hops.length:Int)))) (GX.done ?_)))))))
 rcases qq (decide ((i4:Int) < (c0.Hops.length:Int))) with hb5 | hb5
 ·rw [hb5]
  rw [drop_end hb5,F30l1] at gg4
  refine WK.condF rfl (WK.exit ?_)
  refine QF.exit (gc4 _ ?_)
  subst gg4
  replace hR:=obind_s hR; try dsimp only at hR
  refine WK.sr qv (GX.q (.ptr 0 0) (GX.q (.agg (zy.c c0.P)) (GX.q (.ptr 0 2) (GX.q (.int .i64 c0.Proto) (GX.q (.ptr 0 3) (GX.q (.int .i64 c0.Inst) (GX.q (.ptr 0 4) (GX.q (.int .i64 c0.Dist) (GX.q (.ptr 0 5) (GX.q (.int .i64 c0.Metric) (GX.q (.ptr 0 6) (GX.q (.int .u32 c0.Tag) (GX.q (.ptr 0 7) ?_)))))))))))))
  refine GX.q (.bool c0.Leaked) (GX.q (.ptr 0 8) (GX.q (.int .i64 c0.From) (GX.m rfl (GX.q (.agg [.int .u32 c0.P.A,.int .i64 c0.P.N,.int .i64 c0.Proto,.int .i64 c0.Inst,.int .i64 c0.Dist,.int .i64 c0.Metric,.int .u32 c0.Tag,.bool c0.Leaked,.int .i64 c0.From,.own 2 2 0 h3.length]) (GX.step0 (zj:=[(0,.box (qj.c c0)),(1,.box [.int .u32 c0.P.A,.int .i64 c0.P.N,.int .i64 c0.Proto,.int .i64 c0.Inst,.int .i64 c0.Dist,.int .i64 c0.Metric,.int .u32 c0.Tag,.bool c0.Leaked,.int .i64 c0.From,.own 2 2 0 h3.length]),(2,.row 2 147 (h3.map THop.c))]) (zk:=3) rfl rfl rfl rfl rfl (GX.done (WK.ret ?_)))))))
  obtain rfl:=Option.some.inj hR
  exact RetQ.fr [2] (.inr rfl) rfl rfl (qz (viewP_agg (qz rfl (qz rfl (qz rfl (qz rfl (qz rfl (qz rfl (qz rfl (qz rfl (qz rfl (qz (view_rowT rfl rfl) qw))))))))))) qw) rfl
 ·rw [hb5]
  obtain ⟨x4,hx4,hd4,hlt4⟩:=drop_more hb5
  rw [hd4,F30l1] at gg4
  refine WK.condT rfl (WK.skip (WK.seq ?_))
  refine WK.blockK (fun _ hK6=>?_)
  refine WK.drawn qv (RD.m rfl (RD.q (.ptr 0 9) (RD.q (.ro 2 (c0.Hops.map THop.c)) (RD.m rfl (RD.idxT (c:=THop.c) (x:=x4) rfl rfl rfl (Int.natCast_nonneg _) hx4 (RD.q (.rptr (THop.c x4)) (RD.q (.int .i64 x4.Iface) (RD.q (.ptr 0 9) (RD.q (.ro 2 (c0.Hops.map THop.c)) (RD.m rfl (RD.idxT (c:=THop.c) (x:=x4) rfl rfl rfl (Int.natCast_nonneg _) hx4 (RD.q (.rptr [.int .u32 x4.Gate]) (RD.q (.int .u32 x4.Gate) ?_)))))))))))))
  refine RD.q (.agg (THop.c x4)) (RD.step (v':=.own 3 2 0 (([x4]:List THop)).length) (zj:=[(0,.box (qj.c c0)),(1,.box [.int .u32 0,.int .i64 0,.int .i64 0,.int .i64 0,.int .i64 0,.int .i64 0,.int .u32 0,.bool false,.int .i64 0,.nils]),(2,.row 2 147 (h3.map THop.c)),(3,.row 2 147 (([x4]:List THop).map THop.c))]) (zk:=4) rfl rfl rfl rfl rfl rfl rfl ?_)
  rcases qq (decide (h3.length < 1099511627776)) with hg7 | hg7
  ·replace gg4:=kz hg7 gg4
   subst gg4
   first | replace hR:=wz hR | replace hR:=oexc_n hR
   cases hR
  replace gg4:=ky hg7 gg4; try dsimp only at gg4
  have hg7_:=of_decide_eq_true hg7
  refine RD.appT (c:=THop.c) (L:=h3) (X:=([x4]:List THop)) (zj:=[(0,.box (qj.c c0)),(1,.box [.int .u32 0,.int .i64 0,.int .i64 0,.int .i64 0,.int .i64 0,.int .i64 0,.int .u32 0,.bool false,.int .i64 0,.nils]),(3,.row 2 147 (([x4]:List THop).map THop.c)),(4,.row 2 147 ((h3 ++ ([x4]:List THop)).map THop.c))]) (zk:=5) rfl rfl rfl rfl (elems_own rfl) (by ((try simp only [List.length_append,List.length_cons,List.length_nil,List.length_map,decide_eq_true_eq,decide_eq_false_iff_not] at *) <;> omega)) (by ((try simp only [List.length_append,List.length_cons,List.length_nil,List.length_map,decide_eq_true_eq,decide_eq_false_iff_not] at *) <;> omega)) rfl rfl rfl rfl (RD.m rfl (RD.done rfl ?_))
  refine WK.nil (QF.normal (hK6 _ ?_))
  refine WK.regx qv (GX.m rfl (GX.pure (v':=.int .i64 ((i4 + 1:Nat):Int)) rfl rfl rfl rfl (congrArg (PVal.int .i64) (wrap_up hlt4 ge4)) (GX.m rfl (GX.done ?_))))
  refine WK.nil (QF.normal ?_)
  refine ga4 _ (c0.Hops.length - (i4 + 1)) _ (by omega) ?_ ⟨i4 + 1,(h3 ++ ([x4]:List THop)),(by omega),rfl,gg4,rfl⟩
  exact Conv.keep [0,1,4] [] [1,2,3,4] rfl rfl (qx rfl rfl (qx rfl rfl (qx rfl rfl (qx rfl rfl qy)))) rfl rfl
theorem f10_ok (n0:TNet) (at1:Int) (c2:qj) (R:Bool) (hR:F10 n0 at1 c2 = some R):FnOk Tryz.prog 10 [.agg (TNet.c n0),.int .i64 at1,.agg (qj.c c2)] [] 0 (.bool R) [] 0:=by
 refine FnOk.wk i10 rfl rfl ?_
 unfold F10 at hR
 try dsimp only at hR
 change WK _ _ _ [ac10] _ ⟨[(0,.agg (TNet.c n0)),(1,.int .i64 at1),(2,.agg (qj.c c2))],[],0⟩
 unfold ac10
 refine WK.sr qv (GX.step (v':=.ptr 0 0) (zj:=[(0,.box (TNet.c n0))]) (zk:=1) rfl rfl rfl rfl rfl rfl rfl (GX.step (v':=.ptr 1 0) (zj:=[(0,.box (TNet.c n0)),(1,.box (qj.c c2))]) (zk:=2) rfl rfl rfl rfl rfl rfl rfl (GX.m rfl (GX.done (WK.sr qv (GX.m rfl (GX.done (WK.seq (WK.sr qv (GX.m rfl (GX.done ?_)))))))))))
 refine WK.lenb (id:=0) (j:=2) rfl rfl (by simp) (fun ge5=>?_)
 rw [List.length_map] at ge5
 generalize gi5:F10l2 at1 c2 false n0.L = gh5 at hR
 refine WK.forK (fun k s=>∃ (i8:Nat) (linked7:Bool),i8 ≤ n0.L.length ∧ k = n0.L.length - i8 ∧ F10l2 at1 c2 linked7 (n0.L.drop i8) = gh5 ∧ s = ⟨[(1,.int .i64 at1),(3,.ptr 0 0),(5,.ptr 1 0),(7,.bool linked7),(8,.int .i64 (i8:Int))],[(0,.box (TNet.c n0)),(1,.box (qj.c c2))],2⟩) n0.L.length (by refine ⟨_,?_,0,false,(by omega),rfl,gi5,rfl⟩; exact Conv.keep [0,1] [] [1,3,5,7,8] rfl rfl (qx rfl rfl (qx rfl rfl (qx rfl rfl (qx rfl rfl (qx rfl rfl qy))))) rfl rfl) ?_
 rintro _ _ ⟨i8,linked7,gj5,rfl,gg5,rfl⟩ gb5 gd5 gk5 ga5 gc5 gf5
 refine WK.seq (WK.sr qv (GX.m rfl (GX.q (.ptr 0 2) (GX.q (.ro 3 (n0.L.map zz.c)) (GX.pure (v':=.int .i64 (n0.L.length:Int)) rfl rfl rfl rfl (ww _ _) (GX.q (.bool (decide ((i8:Int) < (n0.L.length:Int)))) (GX.done ?_)))))))
 rcases qq (decide ((i8:Int) < (n0.L.length:Int))) with hb6 | hb6
 ·rw [hb6]
  rw [drop_end hb6,F10l2] at gg5
  refine WK.condF rfl (WK.exit ?_)
  refine QF.exit (gc5 _ ?_)
  subst gg5
  replace hR:=obind_s hR; try dsimp only at hR
  refine WK.seq (WK.sr qv (GX.m rfl (GX.q (.bool (!linked7)) (GX.m rfl ?_))))
  rcases qq (linked7) with hb7 | hb7
  ·rw [hb7]; first | replace hR:=kz hb7 hR | (try simp only [hb7,bb] at hR)
   iterate 3 refine GX.skip rfl rfl ?_
   refine GX.q (.bool true) ?_
   refine GX.m rfl ?_
   iterate 6 refine GX.skip rfl rfl ?_
   refine GX.q (.bool true) (GX.done (WK.condT rfl (WK.sr qv (GX.m rfl (GX.done (WK.ret ?_))))))
   obtain rfl:=Option.some.inj hR
   exact RetQ.fr [] (.inr rfl) rfl rfl rfl rfl
  ·rw [hb7]; first | replace hR:=ky hb7 hR | (try simp only [hb7,bb] at hR)
   refine GX.q (.ptr 1 8) (GX.q (.int .i64 c2.From) (GX.q (.bool (decide (c2.From < 0))) (GX.q (.bool (decide (c2.From < 0))) (GX.m rfl ?_))))
   rcases qq (decide (c2.From < 0)) with hb8 | hb8
   ·rw [hb8]; first | replace hR:=kz hb8 hR | (try simp only [hb8,bb] at hR)
    refine GX.q (.ptr 1 8) (GX.q (.int .i64 c2.From) (GX.q (.ptr 0 1) (GX.q (.ro 1 (n0.Sel.map (wq 10 qj.c))) (GX.pure (v':=.int .i64 (n0.Sel.length:Int)) rfl rfl rfl rfl (ww _ _) (GX.q (.bool (decide ((n0.Sel.length:Int) ≤ c2.From))) (GX.q (.bool (decide ((n0.Sel.length:Int) ≤ c2.From))) (GX.done ?_)))))))
    rcases qq (decide ((n0.Sel.length:Int) ≤ c2.From)) with hb9 | hb9
    ·rw [hb9]; first | replace hR:=kz hb9 hR | (try simp only [hb9,bb] at hR)
     refine WK.condF rfl (WK.skip (WK.seq (WK.sr qv (GX.m rfl (GX.done ?_)))))
     obtain ⟨x909,hx909,hR⟩:=wx hR; try dsimp only at hR
     obtain ⟨hx9090,hx909j,hx909l,hx909⟩:=kx hx909
     refine WK.lenI (t:=51) rfl (.ro c2.From.toNat 0 (map_at hx909) rfl .refl) (by simp) (fun ge11=>?_)
     rw [List.length_map] at ge11
     generalize gi11:F10l1 c2 x909 = gh11 at hR
     refine WK.forK (fun k s=>∃ (i9:Nat),i9 ≤ x909.length ∧ k = x909.length - i9 ∧ F10l1 c2 (x909.drop i9) = gh11 ∧ s = ⟨[(3,.ptr 0 0),(5,.ptr 1 0),(9,.int .i64 (i9:Int))],[(0,.box (TNet.c n0)),(1,.box (qj.c c2))],2⟩) x909.length (by refine ⟨_,?_,0,(by omega),rfl,gi11,rfl⟩; exact Conv.keep [0,1] [] [3,5,9] rfl rfl (qx rfl rfl (qx rfl rfl (qx rfl rfl qy))) rfl rfl) ?_
     rintro _ _ ⟨i9,gj11,rfl,gg11,rfl⟩ gb11 gd11 gk11 ga11 gc11 gf11
     refine WK.seq (WK.sr qv (GX.m rfl (GX.q (.ptr 0 1) (GX.q (.ro 1 (n0.Sel.map (wq 10 qj.c))) (GX.q (.ptr 1 8) (GX.q (.int .i64 c2.From) (GX.idxT (c:=(wq 10 qj.c)) (x:=x909) rfl rfl rfl hx9090 hx909 (GX.q (.ro 10 (x909.map qj.c)) (GX.pure (v':=.int .i64 (x909.length:Int)) rfl rfl rfl rfl (ww _ _) (GX.q (.bool (decide ((i9:Int) < (x909.length:Int)))) (GX.done ?_)))))))))))
     rcases qq (decide ((i9:Int) < (x909.length:Int))) with hb12 | hb12
     ·rw [hb12]
      rw [drop_end hb12,F10l1] at gg11
      refine WK.condF rfl (WK.exit ?_)
      refine QF.exit (gc11 _ ?_)
      subst gg11
      replace hR:=oexc_k hR; try dsimp only at hR
      refine WK.sr qv (GX.m rfl (GX.done (WK.ret ?_)))
      obtain rfl:=Option.some.inj hR
      exact RetQ.fr [] (.inr rfl) rfl rfl rfl rfl
     ·rw [hb12]
      obtain ⟨x9,hx11,hd11,hlt11⟩:=drop_more hb12
      rw [hd11,F10l1] at gg11
      refine WK.condT rfl (WK.skip (WK.seq ?_))
      refine WK.blockK (fun _ hK13=>?_)
      refine WK.sr qv (GX.q (.ptr 0 1) (GX.q (.ro 1 (n0.Sel.map (wq 10 qj.c))) (GX.q (.ptr 1 8) (GX.q (.int .i64 c2.From) (GX.idxT (c:=(wq 10 qj.c)) (x:=x909) rfl rfl rfl hx9090 hx909 (GX.q (.ro 10 (x909.map qj.c)) (GX.m rfl (GX.idxT (c:=qj.c) (x:=x9) rfl rfl rfl (Int.natCast_nonneg _) hx11 (GX.q (.agg (qj.c x9)) (GX.step (v':=.ptr 2 0) (zj:=[(0,.box (TNet.c n0)),(1,.box (qj.c c2)),(2,.box [.int .u32 0,.int .i64 0,.int .i64 0,.int .i64 0,.int .i64 0,.int .i64 0,.int .u32 0,.bool false,.int .i64 0,.nils])]) (zk:=3) rfl rfl rfl rfl rfl rfl rfl (GX.step0 (zj:=[(0,.box (TNet.c n0)),(1,.box (qj.c c2)),(2,.box (qj.c x9))]) (zk:=3) rfl rfl rfl rfl rfl (GX.done (WK.sr qv ?_)))))))))))))
      refine GX.q (.ptr 2 0) (GX.q (.agg (zy.c x9.P)) (GX.q (.ptr 1 0) (GX.q (.agg (zy.c c2.P)) (GX.q (.bool (decide (x9.P.A = c2.P.A) && (decide (x9.P.N = c2.P.N) && true))) (GX.m rfl ?_)))))
      rcases qq ((decide (x9.P.A = c2.P.A) && (decide (x9.P.N = c2.P.N) && true))) with hb14 | hb14
      ·rw [hb14]; try simp only [hb14,bb] at gg11
       refine GX.skip rfl rfl (GX.skip rfl rfl (GX.skip rfl rfl (GX.q (.bool false) (GX.done (WK.condF rfl (WK.skip ?_))))))
       refine WK.nil (QF.normal (hK13 _ ?_))
       refine WK.regx qv (GX.m rfl (GX.pure (v':=.int .i64 ((i9 + 1:Nat):Int)) rfl rfl rfl rfl (congrArg (PVal.int .i64) (wrap_up hlt11 ge11)) (GX.m rfl (GX.done ?_))))
       refine WK.nil (QF.normal ?_)
       refine ga11 _ (x909.length - (i9 + 1)) _ (by omega) ?_ ⟨i9 + 1,(by omega),rfl,gg11,rfl⟩
       exact Conv.keep [0,1] [] [3,5,9] rfl rfl (qx rfl rfl (qx rfl rfl (qx rfl rfl qy))) rfl rfl
      ·rw [hb14]; try simp only [hb14,bb] at gg11
       refine GX.q (.ptr 2 7) (GX.q (.bool x9.Leaked) (GX.q (.bool (!x9.Leaked)) (GX.q (.bool (!x9.Leaked)) (GX.done ?_))))
       rcases qq (x9.Leaked) with hb15 | hb15
       ·rw [hb15]; try simp only [hb15,bb] at gg11
        refine WK.condT rfl (WK.sr qv (GX.q (.ptr 2 7) (GX.step0 (zj:=[(0,.box (TNet.c n0)),(1,.box (qj.c c2)),(2,.box [.int .u32 x9.P.A,.int .i64 x9.P.N,.int .i64 x9.Proto,.int .i64 x9.Inst,.int .i64 x9.Dist,.int .i64 x9.Metric,.int .u32 x9.Tag,.bool true,.int .i64 x9.From,.ro 2 (x9.Hops.map THop.c)])]) (zk:=3) rfl rfl rfl rfl rfl (GX.done (WK.sr qv (GX.q (.ptr 1 8) (GX.q (.int .i64 c2.From) (GX.q (.ptr 2 8) (GX.step0 (zj:=[(0,.box (TNet.c n0)),(1,.box (qj.c c2)),(2,.box [.int .u32 x9.P.A,.int .i64 x9.P.N,.int .i64 x9.Proto,.int .i64 x9.Inst,.int .i64 x9.Dist,.int .i64 x9.Metric,.int .u32 x9.Tag,.bool true,.int .i64 c2.From,.ro 2 (x9.Hops.map THop.c)])]) (zk:=3) rfl rfl rfl rfl rfl (GX.done (WK.seq (WK.drawn qv (RD.q (.agg [.int .u32 x9.P.A,.int .i64 x9.P.N,.int .i64 x9.Proto,.int .i64 x9.Inst,.int .i64 x9.Dist,.int .i64 x9.Metric,.int .u32 x9.Tag,.bool true,.int .i64 c2.From,.ro 2 (x9.Hops.map THop.c)]) ?_)))))))))))))
        rcases wy gg11 with ⟨_,gg11⟩ | ⟨c90,hc90,gg11⟩
        ·subst gg11
         first | replace hR:=wz hR | replace hR:=oexc_n hR
         cases hR
        try dsimp only at gg11
        try dsimp only at gg11
        refine RD.callp (r:=.agg (qj.c c90)) rfl rfl rfl (f30_ok (⟨x9.P,x9.Proto,x9.Inst,x9.Dist,x9.Metric,x9.Tag,true,c2.From,x9.Hops⟩ : qj) _ hc90) rfl rfl (RD.q (.agg (qj.c c2)) ?_)
        rcases wy gg11 with ⟨_,gg11⟩ | ⟨c92,hc92,gg11⟩
        ·subst gg11
         first | replace hR:=wz hR | replace hR:=oexc_n hR
         cases hR
        try dsimp only at gg11
        try dsimp only at gg11
        refine RD.callp (r:=.agg (qj.c c92)) rfl rfl rfl (f30_ok c2 _ hc92) rfl rfl ?_
        generalize hc93:F29 c90 c92 = c93 at gg11
        try dsimp only at gg11
        refine RD.callp (r:=.bool c93) rfl rfl rfl (f29_ok c90 c92 _ hc93) rfl rfl (RD.m rfl (RD.done rfl (WK.ret (QF.ret ?_))))
        refine QF.ret (gf11 _ _ ?_)
        subst gg11
        first | replace hR:=oexc_e hR | replace hR:=oexc_k hR | replace hR:=obind_s hR
        try dsimp only at hR
        obtain rfl:=Option.some.inj hR
        exact RetQ.fr [] (.inr rfl) rfl rfl rfl rfl
       ·rw [hb15]; try simp only [hb15,bb] at gg11
        refine WK.condF rfl (WK.skip ?_)
        refine WK.nil (QF.normal (hK13 _ ?_))
        refine WK.regx qv (GX.m rfl (GX.pure (v':=.int .i64 ((i9 + 1:Nat):Int)) rfl rfl rfl rfl (congrArg (PVal.int .i64) (wrap_up hlt11 ge11)) (GX.m rfl (GX.done ?_))))
        refine WK.nil (QF.normal ?_)
        refine ga11 _ (x909.length - (i9 + 1)) _ (by omega) ?_ ⟨i9 + 1,(by omega),rfl,gg11,rfl⟩
        exact Conv.keep [0,1] [] [3,5,9] rfl rfl (qx rfl rfl (qx rfl rfl (qx rfl rfl qy))) rfl rfl
    ·rw [hb9]; first | replace hR:=ky hb9 hR | (try simp only [hb9,bb] at hR)
     refine WK.condT rfl (WK.sr qv (GX.m rfl (GX.done (WK.ret ?_))))
     obtain rfl:=Option.some.inj hR
     exact RetQ.fr [] (.inr rfl) rfl rfl rfl rfl
   ·rw [hb8]; first | replace hR:=ky hb8 hR | (try simp only [hb8,bb] at hR)
    iterate 6 refine GX.skip rfl rfl ?_
    refine GX.q (.bool true) (GX.done (WK.condT rfl (WK.sr qv (GX.m rfl (GX.done (WK.ret ?_))))))
    obtain rfl:=Option.some.inj hR
    exact RetQ.fr [] (.inr rfl) rfl rfl rfl rfl
 ·rw [hb6]
  obtain ⟨x8,hx5,hd5,hlt5⟩:=drop_more hb6
  rw [hd5,F10l2] at gg5
  refine WK.condT rfl (WK.skip (WK.seq ?_))
  refine WK.blockK (fun _ hK16=>?_)
  refine WK.drawn qv (RD.m rfl (RD.m rfl ?_))
  rcases qq (linked7) with hb17 | hb17
  ·rw [hb17]; try simp only [hb17,bb] at gg5
   refine RD.q (.ptr 0 2) (RD.q (.ro 3 (n0.L.map zz.c)) (RD.m rfl (RD.idxT (c:=zz.c) (x:=x8) rfl rfl rfl (Int.natCast_nonneg _) hx5 (RD.q (.rptr (zz.c x8)) (RD.q (.int .i64 x8.From) (RD.q (.ptr 1 8) (RD.q (.int .i64 c2.From) (RD.q (.bool (decide (x8.From = c2.From))) (RD.m rfl ?_)))))))))
   rcases qq (decide (x8.From = c2.From)) with hb18 | hb18
   ·rw [hb18]; try simp only [hb18,bb] at gg5
    iterate 8 refine RD.skip rfl rfl ?_
    refine RD.q (.bool false) (RD.q (.bool false) (RD.m rfl (RD.done rfl ?_)))
    refine WK.nil (QF.normal (hK16 _ ?_))
    refine WK.regx qv (GX.m rfl (GX.pure (v':=.int .i64 ((i8 + 1:Nat):Int)) rfl rfl rfl rfl (congrArg (PVal.int .i64) (wrap_up hlt5 ge5)) (GX.m rfl (GX.done ?_))))
    refine WK.nil (QF.normal ?_)
    refine ga5 _ (n0.L.length - (i8 + 1)) _ (by omega) ?_ ⟨i8 + 1,false,(by omega),rfl,gg5,rfl⟩
    exact Conv.keep [0,1] [] [1,3,5,7,8] rfl rfl (qx rfl rfl (qx rfl rfl (qx rfl rfl (qx rfl rfl (qx rfl rfl qy))))) rfl rfl
   ·rw [hb18]; try simp only [hb18,bb] at gg5
    refine RD.q (.ptr 0 2) (RD.q (.ro 3 (n0.L.map zz.c)) (RD.m rfl (RD.idxT (c:=zz.c) (x:=x8) rfl rfl rfl (Int.natCast_nonneg _) hx5 (RD.q (.rptr [.int .i64 x8.To,.ro 12 (x8.Map.map zx.c)]) (RD.q (.int .i64 x8.To) (RD.m rfl (RD.q (.bool (decide (x8.To = at1))) (RD.q (.bool (decide (x8.To = at1))) (RD.q (.bool (decide (x8.To = at1))) (RD.m rfl (RD.done rfl ?_)))))))))))
    refine WK.nil (QF.normal (hK16 _ ?_))
    refine WK.regx qv (GX.m rfl (GX.pure (v':=.int .i64 ((i8 + 1:Nat):Int)) rfl rfl rfl rfl (congrArg (PVal.int .i64) (wrap_up hlt5 ge5)) (GX.m rfl (GX.done ?_))))
    refine WK.nil (QF.normal ?_)
    refine ga5 _ (n0.L.length - (i8 + 1)) _ (by omega) ?_ ⟨i8 + 1,(decide (x8.To = at1)),(by omega),rfl,gg5,rfl⟩
    exact Conv.keep [0,1] [] [1,3,5,7,8] rfl rfl (qx rfl rfl (qx rfl rfl (qx rfl rfl (qx rfl rfl (qx rfl rfl qy))))) rfl rfl
  ·rw [hb17]; try simp only [hb17,bb] at gg5
   iterate 19 refine RD.skip rfl rfl ?_
   refine RD.q (.bool true) (RD.m rfl (RD.done rfl ?_))
   refine WK.nil (QF.normal (hK16 _ ?_))
   refine WK.regx qv (GX.m rfl (GX.pure (v':=.int .i64 ((i8 + 1:Nat):Int)) rfl rfl rfl rfl (congrArg (PVal.int .i64) (wrap_up hlt5 ge5)) (GX.m rfl (GX.done ?_))))
   refine WK.nil (QF.normal ?_)
   refine ga5 _ (n0.L.length - (i8 + 1)) _ (by omega) ?_ ⟨i8 + 1,true,(by omega),rfl,gg5,rfl⟩
   exact Conv.keep [0,1] [] [1,3,5,7,8] rfl rfl (qx rfl rfl (qx rfl rfl (qx rfl rfl (qx rfl rfl (qx rfl rfl qy))))) rfl rfl
theorem f3_ok (size0:Int) (script1:List TAct) (R:Bool) (hR:F3 size0 script1 = some R):FnOk Tryz.prog 3 [.int .i64 size0,.ro 14 (script1.map TAct.c)] [] 0 (.bool R) [] 0:=by
 refine FnOk.wk i3 rfl rfl ?_
 unfold F3 at hR
 try dsimp only at hR
 change WK _ _ _ [ac3] _ ⟨[(0,.int .i64 size0),(1,.ro 14 (script1.map TAct.c))],[],0⟩
 unfold ac3
 refine WK.sr qv (GX.m rfl (GX.done (WK.sr qv (GX.m rfl (GX.m rfl ?_)))))
 obtain ⟨c13,hc13,hR⟩:=wx hR; try dsimp only at hR
 refine GX.callp (r:=.tup [.agg (TNet.c c13.1),.bool c13.2]) rfl rfl rfl (f7_ok size0 script1 _ hc13) rfl rfl (GX.m rfl (GX.q (.agg (TNet.c c13.1)) (GX.q (.bool c13.2) (GX.step (v':=.ptr 0 0) (zj:=[(0,.box [.nils,.nils,.nils,.nils,.bool false])]) (zk:=1) rfl rfl rfl rfl rfl rfl rfl (GX.step0 (zj:=[(0,.box (TNet.c c13.1))]) (zk:=1) rfl rfl rfl rfl rfl (GX.m rfl (GX.done (WK.seq (WK.sr qv (GX.m rfl (GX.q (.bool (!c13.2)) (GX.done ?_))))))))))))
 rcases qq (c13.2) with hb1 | hb1
 ·rw [hb1]; first | replace hR:=kz hb1 hR | (try simp only [hb1,bb] at hR)
  refine WK.condT rfl (WK.sr qv ?_)
  obtain ⟨c18,hc18,hR⟩:=wx hR; try dsimp only at hR
  try dsimp only at hR
  refine GX.callp (r:=.bool c18) rfl rfl rfl (f8_ok  _ hc18) rfl rfl (GX.m rfl (GX.done (WK.ret ?_)))
  obtain rfl:=Option.some.inj hR
  exact RetQ.fr [] (.inr rfl) rfl rfl rfl rfl
 ·rw [hb1]; first | replace hR:=ky hb1 hR | (try simp only [hb1,bb] at hR)
  refine WK.condF rfl (WK.skip (WK.sr qv (GX.q (.agg (TNet.c c13.1)) ?_)))
  obtain ⟨c21,hc21,hR⟩:=wx hR; try dsimp only at hR
  refine GX.callp (r:=.tup [.agg (TNet.c c21.1),.int .i64 c21.2]) rfl rfl rfl (FnOk.weak (f9_ok c13.1 ([]:List Int) _ hc21) (.cons .refl (.cons .nil .refl))) rfl rfl (GX.m rfl (GX.q (.agg (TNet.c c21.1)) (GX.q (.int .i64 c21.2) (GX.step0 (zj:=[(0,.box (TNet.c c21.1))]) (zk:=1) rfl rfl rfl rfl rfl (GX.done (WK.seq (WK.sr qv (GX.m rfl (GX.done ?_)))))))))
  refine WK.lenb (id:=0) (j:=0) rfl rfl (by simp) (fun ge2=>?_)
  rw [List.length_map] at ge2
  generalize gi2:F3l2 c21 0 c21.1.T = gh2 at hR
  refine WK.forK (fun k s=>∃ (i7:Nat),i7 ≤ c21.1.T.length ∧ k = c21.1.T.length - i7 ∧ F3l2 c21 i7 (c21.1.T.drop i7) = gh2 ∧ s = ⟨[(5,.ptr 0 0),(7,.int .i64 (i7:Int))],[(0,.box (TNet.c c21.1))],1⟩) c21.1.T.length (by refine ⟨_,?_,0,(by omega),rfl,gi2,rfl⟩; exact Conv.keep [0] [] [5,7] rfl rfl (qx rfl rfl (qx rfl rfl qy)) rfl rfl) ?_
  rintro _ _ ⟨i7,gj2,rfl,gg2,rfl⟩ gb2 gd2 gk2 ga2 gc2 gf2
  refine WK.seq (WK.sr qv (GX.m rfl (GX.q (.ptr 0 0) (GX.q (.ro 1 (c21.1.T.map qk.c)) (GX.pure (v':=.int .i64 (c21.1.T.length:Int)) rfl rfl rfl rfl (ww _ _) (GX.q (.bool (decide ((i7:Int) < (c21.1.T.length:Int)))) (GX.done ?_)))))))
  rcases qq (decide ((i7:Int) < (c21.1.T.length:Int))) with hb3 | hb3
  ·rw [hb3]
   rw [drop_end hb3,F3l2] at gg2
   refine WK.condF rfl (WK.exit ?_)
   refine QF.exit (gc2 _ ?_)
   subst gg2
   replace hR:=oexc_k hR; try dsimp only at hR
   refine WK.sr qv ?_
   obtain ⟨c60,hc60,hR⟩:=wx hR; try dsimp only at hR
   try dsimp only at hR
   refine GX.callp (r:=.bool c60) rfl rfl rfl (f8_ok  _ hc60) rfl rfl (GX.m rfl (GX.done (WK.ret ?_)))
   obtain rfl:=Option.some.inj hR
   exact RetQ.fr [] (.inr rfl) rfl rfl rfl rfl
  ·rw [hb3]
   obtain ⟨x7,hx2,hd2,hlt2⟩:=drop_more hb3
   rw [hd2,F3l2] at gg2
   refine WK.condT rfl (WK.skip (WK.seq ?_))
   refine WK.blockK (fun _ hK4=>?_)
   refine WK.sr qv (GX.m rfl (GX.done ?_))
   refine WK.lenI (t:=26) rfl (.ro i7 0 (map_at hx2) rfl .refl) (by simp) (fun ge5=>?_)
   rw [List.length_map] at ge5
   generalize gi5:F3l1 c21 i7 x7.L = gh5 at gg2
   refine WK.forK (fun k s=>∃ (i8:Nat),i8 ≤ x7.L.length ∧ k = x7.L.length - i8 ∧ F3l1 c21 i7 (x7.L.drop i8) = gh5 ∧ s = ⟨[(5,.ptr 0 0),(7,.int .i64 (i7:Int)),(8,.int .i64 (i8:Int))],[(0,.box (TNet.c c21.1))],1⟩) x7.L.length (by refine ⟨_,?_,0,(by omega),rfl,gi5,rfl⟩; exact Conv.keep [0] [] [5,7,8] rfl rfl (qx rfl rfl (qx rfl rfl (qx rfl rfl qy))) rfl rfl) ?_
   rintro _ _ ⟨i8,gj5,rfl,gg5,rfl⟩ gb5 gd5 gk5 ga5 gc5 gf5
   refine WK.seq (WK.sr qv (GX.m rfl (GX.q (.ptr 0 0) (GX.q (.ro 1 (c21.1.T.map qk.c)) (GX.m rfl (GX.idxT (c:=qk.c) (x:=x7) rfl rfl rfl (Int.natCast_nonneg _) hx2 (GX.q (.rptr (qk.c x7)) (GX.q (.ro 10 (x7.L.map qj.c)) (GX.pure (v':=.int .i64 (x7.L.length:Int)) rfl rfl rfl rfl (ww _ _) (GX.q (.bool (decide ((i8:Int) < (x7.L.length:Int)))) (GX.done ?_)))))))))))
   rcases qq (decide ((i8:Int) < (x7.L.length:Int))) with hb6 | hb6
   ·rw [hb6]
    rw [drop_end hb6,F3l1] at gg5
    refine WK.condF rfl (WK.exit ?_)
    refine QF.exit (gc5 _ ?_)
    subst gg5
    replace gg2:=oexc_k gg2; try dsimp only at gg2
    refine WK.nil (QF.normal (hK4 _ ?_))
    refine WK.regx qv (GX.m rfl (GX.pure (v':=.int .i64 ((i7 + 1:Nat):Int)) rfl rfl rfl rfl (congrArg (PVal.int .i64) (wrap_up hlt2 ge2)) (GX.m rfl (GX.done ?_))))
    refine WK.nil (QF.normal ?_)
    refine ga2 _ (c21.1.T.length - (i7 + 1)) _ (by omega) ?_ ⟨i7 + 1,(by omega),rfl,gg2,rfl⟩
    exact Conv.keep [0] [] [5,7] rfl rfl (qx rfl rfl (qx rfl rfl qy)) rfl rfl
   ·rw [hb6]
    obtain ⟨x8,hx5,hd5,hlt5⟩:=drop_more hb6
    rw [hd5,F3l1] at gg5
    refine WK.condT rfl (WK.skip (WK.seq ?_))
    refine WK.blockK (fun _ hK7=>?_)
    refine WK.sr qv (GX.q (.ptr 0 0) (GX.q (.ro 1 (c21.1.T.map qk.c)) (GX.m rfl (GX.idxT (c:=qk.c) (x:=x7) rfl rfl rfl (Int.natCast_nonneg _) hx2 (GX.q (.rptr (qk.c x7)) (GX.q (.ro 10 (x7.L.map qj.c)) (GX.m rfl (GX.idxT (c:=qj.c) (x:=x8) rfl rfl rfl (Int.natCast_nonneg _) hx5 (GX.q (.agg (qj.c x8)) (GX.step (v':=.ptr 1 0) (zj:=[(0,.box (TNet.c c21.1)),(1,.box [.int .u32 0,.int .i64 0,.int .i64 0,.int .i64 0,.int .i64 0,.int .i64 0,.int .u32 0,.bool false,.int .i64 0,.nils])]) (zk:=2) rfl rfl rfl rfl rfl rfl rfl (GX.step0 (zj:=[(0,.box (TNet.c c21.1)),(1,.box (qj.c x8))]) (zk:=2) rfl rfl rfl rfl rfl (GX.done (WK.sr qv ?_)))))))))))))
    refine GX.q (.ptr 1 7) (GX.q (.bool x8.Leaked) (GX.m rfl ?_))
    rcases qq (x8.Leaked) with hb8 | hb8
    ·rw [hb8]; try simp only [hb8,bb] at gg5
     iterate 5 refine GX.skip rfl rfl ?_
     refine GX.q (.bool false) (GX.done (WK.condF rfl (WK.skip ?_)))
     refine WK.nil (QF.normal (hK7 _ ?_))
     refine WK.regx qv (GX.m rfl (GX.pure (v':=.int .i64 ((i8 + 1:Nat):Int)) rfl rfl rfl rfl (congrArg (PVal.int .i64) (wrap_up hlt5 ge5)) (GX.m rfl (GX.done ?_))))
     refine WK.nil (QF.normal ?_)
     refine ga5 _ (x7.L.length - (i8 + 1)) _ (by omega) ?_ ⟨i8 + 1,(by omega),rfl,gg5,rfl⟩
     exact Conv.keep [0] [] [5,7,8] rfl rfl (qx rfl rfl (qx rfl rfl (qx rfl rfl qy))) rfl rfl
    ·rw [hb8]; try simp only [hb8,bb] at gg5
     refine GX.q (.agg (TNet.c c21.1)) (GX.m rfl (GX.q (.agg (qj.c x8)) ?_))
     rcases wy gg5 with ⟨_,gg5⟩ | ⟨c57,hc57,gg5⟩
     ·subst gg5
      first | replace gg2:=wz gg2 | replace gg2:=oexc_n gg2
      subst gg2
      first | replace hR:=wz hR | replace hR:=oexc_n hR
      cases hR
     try dsimp only at gg5
     try dsimp only at gg5
     refine GX.callp (r:=.bool c57) rfl rfl rfl (f10_ok c21.1 (i7:Int) x8 _ hc57) rfl rfl (GX.q (.bool (!c57)) (GX.q (.bool (!c57)) (GX.done ?_)))
     rcases qq (c57) with hb9 | hb9
     ·rw [hb9]; try simp only [hb9,bb] at gg5
      refine WK.condT rfl (WK.sr qv (GX.m rfl (GX.done (WK.ret (QF.ret ?_)))))
      refine QF.ret (gf5 _ _ ?_)
      refine QF.ret ?_
      refine QF.ret (gf2 _ _ ?_)
      subst gg5
      first | replace gg2:=oexc_e gg2 | replace gg2:=oexc_k gg2 | replace gg2:=obind_s gg2
      try dsimp only at gg2
      subst gg2
      first | replace hR:=oexc_e hR | replace hR:=oexc_k hR | replace hR:=obind_s hR
      try dsimp only at hR
      obtain rfl:=Option.some.inj hR
      exact RetQ.fr [] (.inr rfl) rfl rfl rfl rfl
     ·rw [hb9]; try simp only [hb9,bb] at gg5
      refine WK.condF rfl (WK.skip ?_)
      refine WK.nil (QF.normal (hK7 _ ?_))
      refine WK.regx qv (GX.m rfl (GX.pure (v':=.int .i64 ((i8 + 1:Nat):Int)) rfl rfl rfl rfl (congrArg (PVal.int .i64) (wrap_up hlt5 ge5)) (GX.m rfl (GX.done ?_))))
      refine WK.nil (QF.normal ?_)
      refine ga5 _ (x7.L.length - (i8 + 1)) _ (by omega) ?_ ⟨i8 + 1,(by omega),rfl,gg5,rfl⟩
      exact Conv.keep [0] [] [5,7,8] rfl rfl (qx rfl rfl (qx rfl rfl (qx rfl rfl qy))) rfl rfl
end Go.Proofs.YtmfggjebbhdejaaGreat.Abs
