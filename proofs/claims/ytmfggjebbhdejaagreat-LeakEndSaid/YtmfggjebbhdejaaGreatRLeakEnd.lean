/- LeakEnd: behind any script the work comes to an end, at one end whatever is picked, which is what Solve tells. No condition. -/
import Derived.Test.YtmfggjebbhdejaaGreatRows
import Derived.WalkKit
import Derived.ShutString
import Derived.Below
import Derived.Test.YtmfggjebbhdejaaGreatG6
set_option linter.unusedVariables false
set_option linter.unusedSimpArgs false
set_option maxRecDepth 100000
set_option maxHeartbeats 4000000
namespace Go.Proofs.YtmfggjebbhdejaaGreat.Abs
open Go
theorem f74_ok (t0:qk) (c1:qj) (R:qk × Bool) (hR:F74 t0 c1 = some R):FnOk Tryz.prog 74 [.agg (qk.c t0),.agg (qj.c c1)] [] 0 (.tup [.agg (qk.c R.1),.bool R.2]) [] 0:=by
 refine FnOk.wk i74 rfl rfl ?_
 unfold F74 at hR
 try dsimp only at hR
 change WK _ _ _ [ac74] _ ⟨[(0,.agg (qk.c t0)),(1,.agg (qj.c c1))],[],0⟩
 unfold ac74
 refine ah qv (aw (v':=.ptr 0 0) (zj:=[(0,.box (qk.c t0))]) (zk:=1) rfl rfl rfl rfl rfl rfl rfl (aw (v':=.ptr 1 0) (zj:=[(0,.box (qk.c t0)),(1,.box (qj.c c1))]) (zk:=2) rfl rfl rfl rfl rfl rfl rfl (aw (v':=.ptr 2 0) (zj:=[(0,.box (qk.c t0)),(1,.box (qj.c c1)),(2,.box [.nils])]) (zk:=3) rfl rfl rfl rfl rfl rfl rfl (af rfl (aa (ah qv (ae (.ptr 0 0) (ae (.ro 10 (t0.L.map qj.c)) (ae (.agg (qj.c c1)) ?_)))))))))
 obtain ⟨c12,hc12,hR⟩:=wx hR; try dsimp only at hR
 refine av (r:=.tup [.int .i64 c12.1,.bool c12.2]) rfl rfl rfl (f90_ok t0.L c1 91 [] [] (fun y0 y1=>F91 y0 y1) ⟨rfl,rfl⟩ (fun y0 y1 _ hr=>f91_ok y0 y1 _ hr) _ hc12) rfl rfl (af rfl (ae (.int .i64 c12.1) (ae (.bool c12.2) (af rfl (af rfl (aa (ak (ah qv (af rfl (ae (.bool (!c12.2)) (aa ?_)))))))))))
 rcases qq (c12.2) with hb1 | hb1
 ·rw [hb1]; first | replace hR:=kw hb1 hR | (try simp only [hb1,bb] at hR)
  refine ap rfl (ah qv (ae (.agg (qk.c t0)) (ay (zj:=[(0,.box (qk.c t0)),(1,.box (qj.c c1)),(2,.box (qk.c t0))]) (zk:=3) rfl rfl rfl rfl rfl (af rfl (aa (aj ?_))))))
  obtain rfl:=Option.some.inj hR
  exact ai [] (.inr rfl) rfl rfl rfl rfl
 ·rw [hb1]; first | replace hR:=kz hb1 hR | (try simp only [hb1,bb] at hR)
  refine aq rfl (aA (ah qv (ae (.ptr 0 0) (ae (.ro 10 (t0.L.map qj.c)) ?_))))
  obtain ⟨hg2,hg2_,hR⟩:=gd hR; try dsimp only at hR
  refine bd (r':=.own 3 10 0 t0.L.length) (zj:=[(0,.box (qk.c t0)),(1,.box (qj.c c1)),(2,.box [.nils]),(3,.row 10 42 (t0.L.map qj.c))]) (zk:=4) [] [] rfl rfl rfl rfl rfl rfl (cS (c:=qj.c) qv i85 t0.L (by decide) (by omega) (by omega)) (.inl rfl) rfl rfl rfl (af rfl (af rfl (ae (.int .i64 (IntKind.i64.wrap (c12.1 + 1))) ?_)))
  obtain ⟨hg3,hg3_,hR⟩:=gd hR; try dsimp only at hR
  obtain ⟨hg4,hg4_,hR⟩:=gd hR; try dsimp only at hR
  obtain ⟨hg5,hg5_,hR⟩:=gd hR; try dsimp only at hR
  refine bd (r':=.own 4 10 0 (bY t0.L c12.1 (IntKind.i64.wrap (c12.1 + 1))).length) (zj:=[(0,.box (qk.c t0)),(1,.box (qj.c c1)),(2,.box [.nils]),(4,.row 10 42 ((bY t0.L c12.1 (IntKind.i64.wrap (c12.1 + 1))).map qj.c))]) (zk:=5) [3] [] rfl rfl rfl rfl rfl rfl (dM (c:=qj.c) (fun _=>rfl) qv i111 t0.L c12.1 (IntKind.i64.wrap (c12.1 + 1)) rfl (by omega) (by omega) (by omega) (by omega)) (.inl rfl) rfl rfl rfl (ae (.agg [.own 4 10 0 (bY t0.L c12.1 (IntKind.i64.wrap (c12.1 + 1))).length]) (ay (zj:=[(0,.box (qk.c t0)),(1,.box (qj.c c1)),(2,.box [.own 4 10 0 (bY t0.L c12.1 (IntKind.i64.wrap (c12.1 + 1))).length]),(4,.row 10 42 ((bY t0.L c12.1 (IntKind.i64.wrap (c12.1 + 1))).map qj.c))]) (zk:=5) rfl rfl rfl rfl rfl (af rfl (aa (aj ?_)))))
  obtain rfl:=Option.some.inj hR
  exact ai [4] (.inr rfl) rfl rfl (qz (bG (qz (aN rfl rfl) qw)) (qz rfl qw)) rfl
theorem f31_ok (n0:TNet) (at1:Int) (c2:qj) (R:TNet × Int) (hR:F31 n0 at1 c2 = some R):FnOk Tryz.prog 31 [.agg (TNet.c n0),.int .i64 at1,.agg (qj.c c2)] [] 0 (.tup [.agg (TNet.c R.1),.int .i64 R.2]) [] 0:=by
 refine FnOk.wk i31 rfl rfl ?_
 unfold F31 at hR
 try dsimp only at hR
 change WK _ _ _ [ac31] _ ⟨[(0,.agg (TNet.c n0)),(1,.int .i64 at1),(2,.agg (qj.c c2))],[],0⟩
 unfold ac31
 refine ah qv (aw (v':=.ptr 0 0) (zj:=[(0,.box (TNet.c n0))]) (zk:=1) rfl rfl rfl rfl rfl rfl rfl (aw (v':=.ptr 1 0) (zj:=[(0,.box (TNet.c n0)),(1,.box (qj.c c2))]) (zk:=2) rfl rfl rfl rfl rfl rfl rfl (aw (v':=.ptr 2 0) (zj:=[(0,.box (TNet.c n0)),(1,.box (qj.c c2)),(2,.box [.nils,.nils,.nils,.nils,.bool false])]) (zk:=3) rfl rfl rfl rfl rfl rfl rfl (af rfl (aa (ak (ah qv (ae (.agg (TNet.c n0)) (af rfl ?_)))))))))
 obtain ⟨c12,hc12,hR⟩:=wx hR; try dsimp only at hR
 try dsimp only at hR
 refine av (r:=.bool c12) rfl rfl rfl (f64_ok n0 at1 _ hc12) rfl rfl (ae (.bool (!c12)) (af rfl ?_))
 rcases qq (c12) with hb1 | hb1
 ·rw [hb1]; first | replace hR:=kw hb1 hR | (try simp only [hb1,bb] at hR)
  refine ag rfl rfl (ag rfl rfl (ae (.bool true) (aa (ap rfl (ah qv (ae (.agg (TNet.c n0)) (ay (zj:=[(0,.box (TNet.c n0)),(1,.box (qj.c c2)),(2,.box (TNet.c n0))]) (zk:=3) rfl rfl rfl rfl rfl (af rfl (aa (aj ?_))))))))))
  obtain rfl:=Option.some.inj hR
  exact ai [] (.inr rfl) rfl rfl rfl rfl
 ·rw [hb1]; first | replace hR:=kz hb1 hR | (try simp only [hb1,bb] at hR)
  refine ae (.ptr 1 7) (ae (.bool c2.Leaked) (ae (.bool c2.Leaked) (aa ?_)))
  rcases qq (c2.Leaked) with hb2 | hb2
  ·rw [hb2]; first | replace hR:=kw hb2 hR | (try simp only [hb2,bb] at hR)
   refine aq rfl (aA (ak (aE qv (au (.ptr 0 0) (au (.ro 1 (n0.T.map qk.c)) (aG rfl ?_))))))
   obtain ⟨x902,hx902,hR⟩:=wx hR; try dsimp only at hR
   obtain ⟨hx9020,hx902j,hx902l,hx902⟩:=ky hx902
   refine bn (c:=qk.c) (x:=x902) rfl rfl rfl hx9020 hx902 (au (.agg (qk.c x902)) (au (.agg (qj.c c2)) ?_))
   obtain ⟨c26,hc26,hR⟩:=wx hR; try dsimp only at hR
   refine aL (r:=.tup [.agg [.ro 10 (c26.1.L.map qj.c)],.bool c26.2]) rfl rfl rfl (f74_ok x902 c2 _ hc26) rfl rfl (aG rfl (au (.agg [.ro 10 (c26.1.L.map qj.c)]) (au (.bool c26.2) (bj (v':=.ptr 3 0) (zj:=[(0,.box (TNet.c n0)),(1,.box (qj.c c2)),(2,.box [.nils,.nils,.nils,.nils,.bool false]),(3,.box [.nils])]) (zk:=4) rfl rfl rfl rfl rfl rfl rfl (aV (zj:=[(0,.box (TNet.c n0)),(1,.box (qj.c c2)),(2,.box [.nils,.nils,.nils,.nils,.bool false]),(3,.box (qk.c c26.1))]) (zk:=4) rfl rfl rfl rfl rfl (aG rfl (aH rfl (ak (ah qv (af rfl (ae (.bool (!c26.2)) (aa ?_))))))))))))
   rcases qq (c26.2) with hb4 | hb4
   ·rw [hb4]; first | replace hR:=kw hb4 hR | (try simp only [hb4,bb] at hR)
    refine ap rfl (ah qv (ae (.agg (TNet.c n0)) (ay (zj:=[(0,.box (TNet.c n0)),(1,.box (qj.c c2)),(2,.box (TNet.c n0)),(3,.box (qk.c c26.1))]) (zk:=4) rfl rfl rfl rfl rfl (af rfl (aa (aj ?_))))))
    obtain rfl:=Option.some.inj hR
    exact ai [] (.inr rfl) rfl rfl rfl rfl
   ·rw [hb4]; first | replace hR:=kz hb4 hR | (try simp only [hb4,bb] at hR)
    refine aq rfl (aA (ah qv (ae (.agg (TNet.c n0)) (af rfl (ae (.agg (qk.c c26.1)) (ae (.agg (qj.c c2)) ?_))))))
    obtain ⟨c36,hc36,hR⟩:=wx hR; try dsimp only at hR
    try dsimp only at hR
    refine av (r:=.agg (TNet.c c36)) rfl rfl rfl (f69_ok n0 at1 c26.1 c2 _ hc36) rfl rfl (ay (zj:=[(0,.box (TNet.c n0)),(1,.box (qj.c c2)),(2,.box (TNet.c c36)),(3,.box (qk.c c26.1))]) (zk:=4) rfl rfl rfl rfl rfl (af rfl (aa (aj ?_))))
    obtain rfl:=Option.some.inj hR
    exact ai [] (.inr rfl) rfl rfl rfl rfl
  ·rw [hb2]; first | replace hR:=kz hb2 hR | (try simp only [hb2,bb] at hR)
   refine ap rfl (ah qv (ae (.agg (TNet.c n0)) (ay (zj:=[(0,.box (TNet.c n0)),(1,.box (qj.c c2)),(2,.box (TNet.c n0))]) (zk:=3) rfl rfl rfl rfl rfl (af rfl (aa (aj ?_))))))
   obtain rfl:=Option.some.inj hR
   exact ai [] (.inr rfl) rfl rfl rfl rfl
theorem f76_ok (c0:qj) (a1:zz) (R:Bool) (hR:F76 c0 a1 = R):FnOk Tryz.prog 76 [.agg (qj.c c0),.rptr (zz.c a1)] [] 0 (.bool R) [] 0:=by
 refine FnOk.wk i76 rfl rfl ?_
 unfold F76 at hR
 change WK _ _ _ [ac76] _ ⟨[(0,.agg (qj.c c0)),(1,.rptr (zz.c a1))],[],0⟩
 unfold ac76
 refine ah qv (aw (v':=.ptr 0 0) (zj:=[(0,.box (qj.c c0))]) (zk:=1) rfl rfl rfl rfl rfl rfl rfl (af rfl (aa (ah qv (ae (.agg (qj.c c0)) (ae (.rptr (zz.c a1)) (ae (.int .i64 a1.From) ?_)))))))
 generalize hc7:F46 c0 a1.From = c7 at hR
 try dsimp only at hR
 refine av (r:=.bool c7) rfl rfl rfl (f46_ok c0 a1.From _ hc7) rfl rfl (af rfl (aa (aj ?_)))
 subst hR
 exact ai [] (.inr rfl) rfl rfl rfl rfl
theorem f32_ok (n0:TNet) (i1:Int) (R:TNet × Int) (hR:F32 n0 i1 = some R):FnOk Tryz.prog 32 [.agg (TNet.c n0),.int .i64 i1] [] 0 (.tup [.agg (TNet.c R.1),.int .i64 R.2]) [] 0:=by
 refine FnOk.wk i32 rfl rfl ?_
 unfold F32 at hR
 try dsimp only at hR
 change WK _ _ _ [ac32] _ ⟨[(0,.agg (TNet.c n0)),(1,.int .i64 i1)],[],0⟩
 unfold ac32
 refine ah qv (aw (v':=.ptr 0 0) (zj:=[(0,.box (TNet.c n0))]) (zk:=1) rfl rfl rfl rfl rfl rfl rfl (aw (v':=.ptr 1 0) (zj:=[(0,.box (TNet.c n0)),(1,.box [.nils,.nils,.nils,.nils,.bool false])]) (zk:=2) rfl rfl rfl rfl rfl rfl rfl (af rfl (aa (ak (ah qv (af rfl (ae (.bool (decide (i1 < 0))) (af rfl ?_)))))))))
 rcases qq (decide (i1 < 0)) with hb1 | hb1
 ·rw [hb1]; first | replace hR:=kw hb1 hR | (try simp only [hb1,bb] at hR)
  refine af rfl (ae (.ptr 0 2) (ae (.ro 3 (n0.L.map zz.c)) (ar (v':=.int .i64 (n0.L.length:Int)) rfl rfl rfl rfl (ww _ _) (ae (.bool (decide ((n0.L.length:Int) ≤ i1))) (ae (.bool (decide ((n0.L.length:Int) ≤ i1))) (aa ?_))))))
  rcases qq (decide ((n0.L.length:Int) ≤ i1)) with hb2 | hb2
  ·rw [hb2]; first | replace hR:=kw hb2 hR | (try simp only [hb2,bb] at hR)
   refine aq rfl (aA (ak (aE qv (au (.ptr 0 2) (au (.ro 3 (n0.L.map zz.c)) (aG rfl ?_))))))
   obtain ⟨x902,hx902,hR⟩:=wx hR; try dsimp only at hR
   obtain ⟨hx9020,hx902j,hx902l,hx902⟩:=ky hx902
   refine bn (c:=zz.c) (x:=x902) rfl rfl rfl hx9020 hx902 (au (.agg (zz.c x902)) (au (.agg (TNet.c n0)) ?_))
   obtain ⟨c26,hc26,hR⟩:=wx hR; try dsimp only at hR
   try dsimp only at hR
   refine fx (r':=.ptr 2 0) (zj:=[(0,.box (TNet.c n0)),(1,.box [.nils,.nils,.nils,.nils,.bool false]),(6,.row 3 108 (c26.Work.map zw.c)),(5,.row 3 84 (c26.L.map zz.c)),(4,.row 1 34 (c26.Sel.map (wv 10 qj.c))),(3,.row 1 36 (c26.T.map qk.c)),(2,.box [.own 3 1 0 c26.T.length,.own 4 1 0 c26.Sel.length,.own 5 3 0 c26.L.length,.own 6 3 0 c26.Work.length,.bool c26.Over])]) (zk:=7) [] [] rfl rfl rfl rfl rfl rfl (f41_ok n0 _ hc26) (.inl rfl) rfl rfl rfl (bj (v':=.ptr 7 0) (zj:=[(0,.box (TNet.c n0)),(1,.box [.nils,.nils,.nils,.nils,.bool false]),(6,.row 3 108 (c26.Work.map zw.c)),(5,.row 3 84 (c26.L.map zz.c)),(4,.row 1 34 (c26.Sel.map (wv 10 qj.c))),(3,.row 1 36 (c26.T.map qk.c)),(2,.box [.own 3 1 0 c26.T.length,.own 4 1 0 c26.Sel.length,.own 5 3 0 c26.L.length,.own 6 3 0 c26.Work.length,.bool c26.Over]),(7,.box [.int .i64 0,.int .i64 0,.nils])]) (zk:=8) rfl rfl rfl rfl rfl rfl rfl (aV (zj:=[(0,.box (TNet.c n0)),(1,.box [.nils,.nils,.nils,.nils,.bool false]),(6,.row 3 108 (c26.Work.map zw.c)),(5,.row 3 84 (c26.L.map zz.c)),(4,.row 1 34 (c26.Sel.map (wv 10 qj.c))),(3,.row 1 36 (c26.T.map qk.c)),(2,.box [.own 3 1 0 c26.T.length,.own 4 1 0 c26.Sel.length,.own 5 3 0 c26.L.length,.own 6 3 0 c26.Work.length,.bool c26.Over]),(7,.box (zz.c x902))]) (zk:=8) rfl rfl rfl rfl rfl (aG rfl (aH rfl (ah qv (af rfl (af rfl (ae (.ptr 2 0) (ae (.ptr 2 2) (ae (.own 5 3 0 c26.L.length) (af rfl (af rfl (ae (.int .i64 (IntKind.i64.wrap (i1 + 1))) ?_)))))))))))))
   obtain ⟨hg5,hg5_,hR⟩:=gd hR; try dsimp only at hR
   obtain ⟨hg6,hg6_,hR⟩:=gd hR; try dsimp only at hR
   obtain ⟨hg7,hg7_,hR⟩:=gd hR; try dsimp only at hR
   obtain ⟨hg8,hg8_,hR⟩:=gd hR; try dsimp only at hR
   refine bd (r':=.own 8 3 0 (bY c26.L i1 (IntKind.i64.wrap (i1 + 1))).length) (zj:=[(0,.box (TNet.c n0)),(1,.box [.nils,.nils,.nils,.nils,.bool false]),(6,.row 3 108 (c26.Work.map zw.c)),(4,.row 1 34 (c26.Sel.map (wv 10 qj.c))),(3,.row 1 36 (c26.T.map qk.c)),(2,.box [.own 3 1 0 c26.T.length,.own 4 1 0 c26.Sel.length,.own 5 3 0 c26.L.length,.own 6 3 0 c26.Work.length,.bool c26.Over]),(7,.box (zz.c x902)),(8,.row 3 84 ((bY c26.L i1 (IntKind.i64.wrap (i1 + 1))).map zz.c))]) (zk:=9) [5] [] rfl rfl rfl rfl rfl rfl (dM (c:=zz.c) (fun _=>rfl) qv i75 c26.L i1 (IntKind.i64.wrap (i1 + 1)) rfl (by omega) (by omega) (by omega) (by omega)) (.inl rfl) rfl rfl rfl (ae (.ptr 2 0) (ae (.ptr 2 2) (ay (zj:=[(0,.box (TNet.c n0)),(1,.box [.nils,.nils,.nils,.nils,.bool false]),(6,.row 3 108 (c26.Work.map zw.c)),(4,.row 1 34 (c26.Sel.map (wv 10 qj.c))),(3,.row 1 36 (c26.T.map qk.c)),(2,.box [.own 3 1 0 c26.T.length,.own 4 1 0 c26.Sel.length,.own 8 3 0 (bY c26.L i1 (IntKind.i64.wrap (i1 + 1))).length,.own 6 3 0 c26.Work.length,.bool c26.Over]),(7,.box (zz.c x902)),(8,.row 3 84 ((bY c26.L i1 (IntKind.i64.wrap (i1 + 1))).map zz.c))]) (zk:=9) rfl rfl rfl rfl rfl (aa (ak (ak (aE qv (aG rfl (au (.ptr 2 0) (au (.ptr 2 0) (au (.own 3 1 0 c26.T.length) (au (.ptr 7 1) (au (.int .i64 x902.To) ?_)))))))))))))
   obtain ⟨x908,hx908,hR⟩:=wx hR; try dsimp only at hR
   obtain ⟨hx9080,hx908j,hx908l,hx908⟩:=ky hx908
   refine aF (v':=.eptr 3 1 x902.To.toNat 0) rfl rfl rfl (aK (c:=qk.c) (L:=c26.T) (j:=x902.To.toNat) rfl hx908j hx908l (by exact Nat.le_refl _)) rfl (aF (v':=.eptr 3 1 x902.To.toNat 0) rfl rfl rfl (cy (c:=qk.c) (L:=c26.T) rfl (by omega) rfl) rfl (aF (v':=.ro 10 (x908.L.map qj.c)) rfl rfl rfl (bf (c:=qk.c) (L:=c26.T) (x:=x908) rfl hx908 rfl) rfl (aF (v':=.int .i64 (x908.L.length:Int)) rfl rfl rfl rfl (ww _ _) (aG rfl (aH rfl ?_)))))
   refine bz (st':=⟨[(4,.ptr 0 0),(6,.ptr 1 0),(7,.ptr 2 0),(46,.ro 10 (x908.L.map qj.c)),(47,.int .i64 (x908.L.length:Int)),(48,.int .i64 0)],[(0,.box [.nils,.nils,.nils,.nils,.bool false]),(1,.box (zz.c x902)),(2,.box [.own 3 1 0 c26.T.length,.own 4 1 0 c26.Sel.length,.ro 3 ((bY c26.L i1 (IntKind.i64.wrap (i1 + 1))).map zz.c),.own 5 3 0 c26.Work.length,.bool c26.Over]),(3,.row 1 36 (c26.T.map qk.c)),(4,.row 1 34 (c26.Sel.map (wv 10 qj.c))),(5,.row 3 108 (c26.Work.map zw.c))],6⟩) (Conv.keep [1,7,2,3,4,6] [8] [4,6,7,46,47,48] rfl rfl (qx rfl rfl (qx rfl rfl (qx rfl rfl (qx rfl rfl (qx rfl rfl (qx rfl rfl qy)))))) (kx rfl rfl (kx rfl rfl (kx rfl (bN (qz rfl (qz rfl (qz (aN rfl rfl) (qz rfl (qz rfl qw)))))) (kx rfl rfl (kx rfl rfl (kx rfl rfl cE)))))) rfl) ?_ (by simp)
   refine bq (t:=46) rfl (by simp) (fun ge20=>?_)
   rw [List.length_map] at ge20
   generalize gi20:F32l1 x902 (bY c26.L i1 (IntKind.i64.wrap (i1 + 1))) c26.Over c26.T c26.Sel c26.Work x908.L = gh20 at hR
   refine aY (fun k s=>∃ (i48:Nat) (k_2_7:List zz) (k_4_7:Bool) (row3:List qk) (row4:List (List qj)) (row5:List zw),i48 ≤ x908.L.length ∧ k = x908.L.length - i48 ∧ F32l1 x902 k_2_7 k_4_7 row3 row4 row5 (x908.L.drop i48) = gh20 ∧ s = ⟨[(4,.ptr 0 0),(6,.ptr 1 0),(7,.ptr 2 0),(46,.ro 10 (x908.L.map qj.c)),(47,.int .i64 (x908.L.length:Int)),(48,.int .i64 (i48:Int))],[(0,.box [.nils,.nils,.nils,.nils,.bool false]),(1,.box (zz.c x902)),(2,.box [.own 3 1 0 row3.length,.own 4 1 0 row4.length,.ro 3 (k_2_7.map zz.c),.own 5 3 0 row5.length,.bool k_4_7]),(3,.row 1 36 (row3.map qk.c)),(4,.row 1 34 (row4.map (wv 10 qj.c))),(5,.row 3 108 (row5.map zw.c))],6⟩) x908.L.length (by refine ⟨_,?_,0,(bY c26.L i1 (IntKind.i64.wrap (i1 + 1))),c26.Over,c26.T,c26.Sel,c26.Work,(by omega),rfl,gi20,rfl⟩; exact Conv.keep [0,1,2,3,4,5] [] [4,6,7,46,47,48] rfl rfl (qx rfl rfl (qx rfl rfl (qx rfl rfl (qx rfl rfl (qx rfl rfl (qx rfl rfl qy)))))) rfl rfl) ?_
   rintro _ _ ⟨i48,k_2_7,k_4_7,row3,row4,row5,gj20,rfl,gg20,rfl⟩ gb20 gd20 gk20 ga20 gc20 gf20
   refine ah qv (ae (.bool (decide ((i48:Int) < (x908.L.length:Int)))) (aa (ak ?_)))
   rcases qq (decide ((i48:Int) < (x908.L.length:Int))) with hb21 | hb21
   ·rw [hb21]
    rw [bc hb21,F32l1] at gg20
    refine aq rfl (aT ?_)
    refine aU (gc20 _ ?_)
    subst gg20
    replace hR:=be hR; try dsimp only at hR
    refine ak ?_
    refine bz (st':=⟨[(4,.ptr 0 0),(6,.rptr (zz.c x902)),(7,.ptr 1 0)],[(0,.box [.nils,.nils,.nils,.nils,.bool false]),(1,.box [.own 2 1 0 row3.length,.own 3 1 0 row4.length,.ro 3 (k_2_7.map zz.c),.own 4 3 0 row5.length,.bool k_4_7]),(2,.row 1 36 (row3.map qk.c)),(3,.row 1 34 (row4.map (wv 10 qj.c))),(4,.row 3 108 (row5.map zw.c))],5⟩) (Conv.keep [0,2,3,4,5] [1] [4,6,7] rfl rfl (qx rfl rfl (qx rfl rfl (qx rfl rfl qy))) rfl rfl) ?_ (by simp)
    refine aE qv (aG rfl (au (.ptr 1 0) (au (.ptr 1 0) (au (.own 2 1 0 row3.length) (au (.rptr [.int .i64 x902.To,.ro 12 (x902.Map.map zx.c)]) (au (.int .i64 x902.To) (aG rfl (au (.ptr 1 0) (au (.ptr 1 0) (au (.own 2 1 0 row3.length) (au (.rptr [.int .i64 x902.To,.ro 12 (x902.Map.map zx.c)]) (au (.int .i64 x902.To) ?_))))))))))))
    obtain ⟨x922,hx922,hR⟩:=wx hR; try dsimp only at hR
    obtain ⟨hx9220,hx922j,hx922l,hx922⟩:=ky hx922
    refine aF (v':=.eptr 2 1 x902.To.toNat 0) rfl rfl rfl (aK (c:=qk.c) (L:=row3) (j:=x902.To.toNat) rfl hx922j hx922l (by exact Nat.le_refl _)) rfl (aF (v':=.agg (qk.c x922)) rfl rfl rfl (bf (c:=qk.c) (L:=row3) (x:=x922) rfl hx922 rfl) rfl (au (.fn 76 [] [.rptr (zz.c x902)]) ?_))
    obtain ⟨c78,hc78,hR⟩:=wx hR; try dsimp only at hR
    try dsimp only at hR
    refine aL (r:=.agg [.ro 10 (c78.L.map qj.c)]) rfl rfl rfl (f42_ok x922 76 [] [.rptr (zz.c x902)] (fun y0=>F76 y0 x902) ⟨rfl,rfl⟩ (fun y0 _ hr=>f76_ok y0 x902 _ hr) _ hc78) rfl rfl (aF (v':=.eptr 2 1 x902.To.toNat 0) rfl rfl rfl (aK (c:=qk.c) (L:=row3) (j:=x902.To.toNat) rfl hx922j hx922l (by exact Nat.le_refl _)) rfl (aV (zj:=[(0,.box [.nils,.nils,.nils,.nils,.bool false]),(1,.box [.own 2 1 0 row3.length,.own 3 1 0 row4.length,.ro 3 (k_2_7.map zz.c),.own 4 3 0 row5.length,.bool k_4_7]),(2,.row 1 36 ((row3.set x902.To.toNat c78).map qk.c)),(3,.row 1 34 (row4.map (wv 10 qj.c))),(4,.row 3 108 (row5.map zw.c))]) (zk:=5) rfl rfl (bw (c:=qk.c) (L:=row3) (x:=x922) (x':=c78) rfl hx922 rfl rfl rfl rfl rfl) rfl rfl (aH rfl (ah qv (af rfl (ae (.ptr 1 0) (ae (.agg [.own 2 1 0 row3.length,.own 3 1 0 row4.length,.ro 3 (k_2_7.map zz.c),.own 4 3 0 row5.length,.bool k_4_7]) (ay (zj:=[(0,.box [.own 2 1 0 row3.length,.own 3 1 0 row4.length,.ro 3 (k_2_7.map zz.c),.own 4 3 0 row5.length,.bool k_4_7]),(1,.box [.own 2 1 0 row3.length,.own 3 1 0 row4.length,.ro 3 (k_2_7.map zz.c),.own 4 3 0 row5.length,.bool k_4_7]),(2,.row 1 36 ((row3.set x902.To.toNat c78).map qk.c)),(3,.row 1 34 (row4.map (wv 10 qj.c))),(4,.row 3 108 (row5.map zw.c))]) (zk:=5) rfl rfl rfl rfl rfl (af rfl (aa (aj ?_)))))))))))
    obtain rfl:=Option.some.inj hR
    exact ai [2,3,4] (.inr rfl) rfl rfl (qz (bG (qz (fz rfl rfl (by simp)) (qz (aN rfl rfl) (qz rfl (qz (aN rfl rfl) (qz rfl qw)))))) (qz rfl qw)) rfl
   ·rw [hb21]
    obtain ⟨x48,hx20,hd20,hlt20⟩:=aR hb21
    rw [hd20,F32l1] at gg20
    refine ap rfl (aA (ak ?_))
    refine aI (fun _ hK24=>?_)
    refine ah qv (aZ (c:=qj.c) (x:=x48) rfl rfl rfl (Int.natCast_nonneg _) hx20 (ae (.agg (qj.c x48)) (aw (v':=.ptr 6 0) (zj:=[(0,.box [.nils,.nils,.nils,.nils,.bool false]),(1,.box (zz.c x902)),(2,.box [.own 3 1 0 row3.length,.own 4 1 0 row4.length,.ro 3 (k_2_7.map zz.c),.own 5 3 0 row5.length,.bool k_4_7]),(3,.row 1 36 (row3.map qk.c)),(4,.row 1 34 (row4.map (wv 10 qj.c))),(5,.row 3 108 (row5.map zw.c)),(6,.box [.int .u32 0,.int .i64 0,.int .i64 0,.int .i64 0,.int .i64 0,.int .i64 0,.int .u32 0,.bool false,.int .i64 0,.nils])]) (zk:=7) rfl rfl rfl rfl rfl rfl rfl (ay (zj:=[(0,.box [.nils,.nils,.nils,.nils,.bool false]),(1,.box (zz.c x902)),(2,.box [.own 3 1 0 row3.length,.own 4 1 0 row4.length,.ro 3 (k_2_7.map zz.c),.own 5 3 0 row5.length,.bool k_4_7]),(3,.row 1 36 (row3.map qk.c)),(4,.row 1 34 (row4.map (wv 10 qj.c))),(5,.row 3 108 (row5.map zw.c)),(6,.box (qj.c x48))]) (zk:=7) rfl rfl rfl rfl rfl (aa (ah qv (ae (.agg (qj.c x48)) (ae (.ptr 1 0) (ae (.int .i64 x902.From) ?_)))))))))
    generalize hc55:F46 x48 x902.From = c55 at gg20
    try dsimp only at gg20
    refine av (r:=.bool c55) rfl rfl rfl (f46_ok x48 x902.From _ hc55) rfl rfl (aa ?_)
    rcases qq (c55) with hb25 | hb25
    ·rw [hb25]; try simp only [hb25,bb] at gg20
     refine aq rfl (aA ?_)
     refine aB (am (hK24 _ ?_))
     refine az qv (ar (v':=.int .i64 ((i48 + 1:Nat):Int)) rfl rfl rfl rfl (congrArg (PVal.int .i64) (aO hlt20 ge20)) (af rfl (aa ?_)))
     refine aB (am ?_)
     refine ga20 _ (x908.L.length - (i48 + 1)) _ (by omega) ?_ ⟨i48 + 1,k_2_7,k_4_7,row3,row4,row5,(by omega),rfl,gg20,rfl⟩
     exact Conv.keep [0,1,2,3,4,5] [] [4,6,7,46,47,48] rfl rfl (qx rfl rfl (qx rfl rfl (qx rfl rfl (qx rfl rfl (qx rfl rfl (qx rfl rfl qy)))))) rfl rfl
    ·rw [hb25]; try simp only [hb25,bb] at gg20
     refine ap rfl (az qv (af rfl (ae (.ptr 1 1) (ae (.int .i64 x902.To) (ae (.ptr 6 0) (ae (.agg (zy.c x48.P)) ?_))))))
     rcases wy gg20 with ⟨_,gg20⟩ | ⟨c61,hc61,gg20⟩
     ·subst gg20
      first | replace hR:=wz hR | replace hR:=aJ hR
      cases hR
     try dsimp only at gg20
     try dsimp only at gg20
     refine bd (r':=.tup []) (zj:=[(0,.box [.nils,.nils,.nils,.nils,.bool false]),(1,.box (zz.c x902)),(2,.box [.own 7 1 0 c61.T.length,.own 8 1 0 c61.Sel.length,.ro 3 (c61.L.map zz.c),.own 9 3 0 c61.Work.length,.bool c61.Over]),(6,.box (qj.c x48)),(9,.row 3 108 (c61.Work.map zw.c)),(8,.row 1 34 (c61.Sel.map (wv 10 qj.c))),(7,.row 1 36 (c61.T.map qk.c))]) (zk:=10) [2,3,4,5] [] rfl rfl rfl rfl rfl rfl (f68_ok (⟨row3,row4,k_2_7,row5,k_4_7⟩ : TNet) x902.To x48.P _ hc61) (.inl rfl) rfl rfl rfl (aa ?_)
     refine aB (am (hK24 _ ?_))
     refine az qv (ar (v':=.int .i64 ((i48 + 1:Nat):Int)) rfl rfl rfl rfl (congrArg (PVal.int .i64) (aO hlt20 ge20)) (af rfl (aa ?_)))
     refine aB (am ?_)
     refine ga20 _ (x908.L.length - (i48 + 1)) _ (by omega) ?_ ⟨i48 + 1,c61.L,c61.Over,c61.T,c61.Sel,c61.Work,(by omega),rfl,gg20,rfl⟩
     exact Conv.keep [0,1,2,7,8,9] [] [4,6,7,46,47,48] rfl rfl (qx rfl rfl (qx rfl rfl (qx rfl rfl (qx rfl rfl (qx rfl rfl (qx rfl rfl qy)))))) rfl rfl
  ·rw [hb2]; first | replace hR:=kz hb2 hR | (try simp only [hb2,bb] at hR)
   refine ap rfl (ah qv (ae (.agg (TNet.c n0)) (ay (zj:=[(0,.box (TNet.c n0)),(1,.box (TNet.c n0))]) (zk:=2) rfl rfl rfl rfl rfl (af rfl (aa (aj ?_))))))
   obtain rfl:=Option.some.inj hR
   exact ai [] (.inr rfl) rfl rfl rfl rfl
 ·rw [hb1]; first | replace hR:=kz hb1 hR | (try simp only [hb1,bb] at hR)
  iterate 5 refine ag rfl rfl ?_
  refine ae (.bool true) (aa (ap rfl (ah qv (ae (.agg (TNet.c n0)) (ay (zj:=[(0,.box (TNet.c n0)),(1,.box (TNet.c n0))]) (zk:=2) rfl rfl rfl rfl rfl (af rfl (aa (aj ?_))))))))
  obtain rfl:=Option.some.inj hR
  exact ai [] (.inr rfl) rfl rfl rfl rfl
theorem f14_ok (n0:TNet) (a1:TAct) (R:TNet × Int) (hR:F14 n0 a1 = some R):FnOk Tryz.prog 14 [.agg (TNet.c n0),.agg (TAct.c a1)] [] 0 (.tup [.agg (TNet.c R.1),.int .i64 R.2]) [] 0:=by
 refine FnOk.wk i14 rfl rfl ?_
 unfold F14 at hR
 try dsimp only at hR
 change WK _ _ _ [ac14] _ ⟨[(0,.agg (TNet.c n0)),(1,.agg (TAct.c a1))],[],0⟩
 unfold ac14
 refine ah qv (aw (v':=.ptr 0 0) (zj:=[(0,.box (TNet.c n0))]) (zk:=1) rfl rfl rfl rfl rfl rfl rfl (aw (v':=.ptr 1 0) (zj:=[(0,.box (TNet.c n0)),(1,.box (TAct.c a1))]) (zk:=2) rfl rfl rfl rfl rfl rfl rfl (aw (v':=.ptr 2 0) (zj:=[(0,.box (TNet.c n0)),(1,.box (TAct.c a1)),(2,.box [.nils,.nils,.nils,.nils,.bool false])]) (zk:=3) rfl rfl rfl rfl rfl rfl rfl (af rfl (aa (ak (ah qv (ae (.ptr 1 0) (ae (.int .i64 a1.Kind) (aa ?_))))))))))
 refine aI (fun _ hK1=>?_)
 refine ah qv (ae (.bool (decide (a1.Kind = 1))) (af rfl (aa ?_)))
 rcases qq (decide (a1.Kind = 1)) with hb2 | hb2
 ·rw [hb2]; first | replace hR:=kw hb2 hR | (try simp only [hb2,bb] at hR)
  refine aq rfl (ah qv (ae (.bool (decide (a1.Kind = 2))) (af rfl (aa ?_))))
  rcases qq (decide (a1.Kind = 2)) with hb3 | hb3
  ·rw [hb3]; first | replace hR:=kw hb3 hR | (try simp only [hb3,bb] at hR)
   refine aq rfl (ah qv (ae (.bool (decide (a1.Kind = 3))) (af rfl (aa ?_))))
   rcases qq (decide (a1.Kind = 3)) with hb4 | hb4
   ·rw [hb4]; first | replace hR:=kw hb4 hR | (try simp only [hb4,bb] at hR)
    refine aq rfl (ah qv (ae (.bool (decide (a1.Kind = 4))) (af rfl (aa ?_))))
    rcases qq (decide (a1.Kind = 4)) with hb5 | hb5
    ·rw [hb5]; first | replace hR:=kw hb5 hR | (try simp only [hb5,bb] at hR)
     refine aq rfl (aA ?_)
     refine aB (am (hK1 _ ?_))
     refine ah qv (ae (.agg (TNet.c n0)) (ae (.ptr 1 2) (ae (.int .i64 a1.To) ?_)))
     obtain ⟨c54,hc54,hR⟩:=wx hR; try dsimp only at hR
     refine av (r:=.tup [.agg (TNet.c c54.1),.bool c54.2]) rfl rfl rfl (f28_ok n0 a1.To _ hc54) rfl rfl (af rfl (ae (.agg (TNet.c c54.1)) (ae (.bool c54.2) (aw (v':=.ptr 3 0) (zj:=[(0,.box (TNet.c n0)),(1,.box (TAct.c a1)),(2,.box [.nils,.nils,.nils,.nils,.bool false]),(3,.box [.nils,.nils,.nils,.nils,.bool false])]) (zk:=4) rfl rfl rfl rfl rfl rfl rfl (ay (zj:=[(0,.box (TNet.c n0)),(1,.box (TAct.c a1)),(2,.box [.nils,.nils,.nils,.nils,.bool false]),(3,.box (TNet.c c54.1))]) (zk:=4) rfl rfl rfl rfl rfl (af rfl (aa (ah qv (ae (.agg (TNet.c c54.1)) (ay (zj:=[(0,.box (TNet.c n0)),(1,.box (TAct.c a1)),(2,.box (TNet.c c54.1)),(3,.box (TNet.c c54.1))]) (zk:=4) rfl rfl rfl rfl rfl (af rfl (aa (aj ?_)))))))))))))
     obtain rfl:=Option.some.inj hR
     exact ai [] (.inr rfl) rfl rfl rfl rfl
    ·rw [hb5]; first | replace hR:=kz hb5 hR | (try simp only [hb5,bb] at hR)
     refine ap rfl (ah qv (ae (.agg (TNet.c n0)) (ae (.ptr 1 1) (ae (.int .i64 a1.At) ?_))))
     obtain ⟨c47,hc47,hR⟩:=wx hR; try dsimp only at hR
     refine av (r:=.tup [.agg (TNet.c c47.1),.int .i64 c47.2]) rfl rfl rfl (f32_ok n0 a1.At _ hc47) rfl rfl (ae (.agg (TNet.c c47.1)) (ae (.int .i64 c47.2) (ay (zj:=[(0,.box (TNet.c n0)),(1,.box (TAct.c a1)),(2,.box (TNet.c c47.1))]) (zk:=3) rfl rfl rfl rfl rfl (af rfl (aa (aj (aS ?_)))))))
     obtain rfl:=Option.some.inj hR
     exact ai [] (.inr rfl) rfl rfl rfl rfl
   ·rw [hb4]; first | replace hR:=kz hb4 hR | (try simp only [hb4,bb] at hR)
    refine ap rfl (ah qv (ae (.agg (TNet.c n0)) (ae (.ptr 1 1) (ae (.int .i64 a1.At) (ae (.ptr 1 2) (ae (.int .i64 a1.To) (ae (.ptr 1 13) (ae (.ro 12 (a1.Map.map zx.c)) ?_))))))))
    obtain ⟨c39,hc39,hR⟩:=wx hR; try dsimp only at hR
    refine av (r:=.tup [.agg (TNet.c c39.1),.int .i64 c39.2]) rfl rfl rfl (f25_ok n0 a1.At a1.To a1.Map _ hc39) rfl rfl (ae (.agg (TNet.c c39.1)) (ae (.int .i64 c39.2) (ay (zj:=[(0,.box (TNet.c n0)),(1,.box (TAct.c a1)),(2,.box (TNet.c c39.1))]) (zk:=3) rfl rfl rfl rfl rfl (af rfl (aa (aj (aS ?_)))))))
    obtain rfl:=Option.some.inj hR
    exact ai [] (.inr rfl) rfl rfl rfl rfl
  ·rw [hb3]; first | replace hR:=kz hb3 hR | (try simp only [hb3,bb] at hR)
   refine ap rfl (ah qv (ae (.agg (TNet.c n0)) (ae (.ptr 1 1) (ae (.int .i64 a1.At) (ae (.ptr 1 3) (ae (.agg (qj.c a1.C)) ?_))))))
   obtain ⟨c27,hc27,hR⟩:=wx hR; try dsimp only at hR
   refine av (r:=.tup [.agg (TNet.c c27.1),.int .i64 c27.2]) rfl rfl rfl (f31_ok n0 a1.At a1.C _ hc27) rfl rfl (ae (.agg (TNet.c c27.1)) (ae (.int .i64 c27.2) (ay (zj:=[(0,.box (TNet.c n0)),(1,.box (TAct.c a1)),(2,.box (TNet.c c27.1))]) (zk:=3) rfl rfl rfl rfl rfl (af rfl (aa (aj (aS ?_)))))))
   obtain rfl:=Option.some.inj hR
   exact ai [] (.inr rfl) rfl rfl rfl rfl
 ·rw [hb2]; first | replace hR:=kz hb2 hR | (try simp only [hb2,bb] at hR)
  refine ap rfl (ah qv (ae (.agg (TNet.c n0)) (ae (.ptr 1 1) (ae (.int .i64 a1.At) (ae (.ptr 1 3) (ae (.agg (qj.c a1.C)) ?_))))))
  obtain ⟨c17,hc17,hR⟩:=wx hR; try dsimp only at hR
  refine av (r:=.tup [.agg (TNet.c c17.1),.int .i64 c17.2]) rfl rfl rfl (f27_ok n0 a1.At a1.C _ hc17) rfl rfl (ae (.agg (TNet.c c17.1)) (ae (.int .i64 c17.2) (ay (zj:=[(0,.box (TNet.c n0)),(1,.box (TAct.c a1)),(2,.box (TNet.c c17.1))]) (zk:=3) rfl rfl rfl rfl rfl (af rfl (aa (aj (aS ?_)))))))
  obtain rfl:=Option.some.inj hR
  exact ai [] (.inr rfl) rfl rfl rfl rfl
theorem f7_ok (size0:Int) (script1:List TAct) (R:TNet × Bool) (hR:F7 size0 script1 = some R):FnOk Tryz.prog 7 [.int .i64 size0,.ro 14 (script1.map TAct.c)] [] 0 (.tup [.agg (TNet.c R.1),.bool R.2]) [] 0:=by
 refine FnOk.wk i7 rfl rfl ?_
 unfold F7 at hR
 try dsimp only at hR
 change WK _ _ _ [ac7] _ ⟨[(0,.int .i64 size0),(1,.ro 14 (script1.map TAct.c))],[],0⟩
 unfold ac7
 refine ah qv (aw (v':=.ptr 0 0) (zj:=[(0,.box [.nils,.nils,.nils,.nils,.bool false])]) (zk:=1) rfl rfl rfl rfl rfl rfl rfl (af rfl (aa (ah qv (af rfl ?_)))))
 obtain ⟨c13,hc13,hR⟩:=wx hR; try dsimp only at hR
 refine av (r:=.tup [.agg (TNet.c c13.1),.int .i64 c13.2]) rfl rfl rfl (f11_ok size0 _ hc13) rfl rfl (af rfl (ae (.agg (TNet.c c13.1)) (ae (.int .i64 c13.2) (aw (v':=.ptr 1 0) (zj:=[(0,.box [.nils,.nils,.nils,.nils,.bool false]),(1,.box [.nils,.nils,.nils,.nils,.bool false])]) (zk:=2) rfl rfl rfl rfl rfl rfl rfl (ay (zj:=[(0,.box [.nils,.nils,.nils,.nils,.bool false]),(1,.box (TNet.c c13.1))]) (zk:=2) rfl rfl rfl rfl rfl (af rfl (aa (ak (ah qv (af rfl (aa ?_)))))))))))
 rcases qq (decide (c13.2 = 0)) with hb1 | hb1
 ·first | replace hR:=kw hb1 hR | (try simp only [hb1,bb] at hR)
  refine WK.unroll 2 (WU.go ?_)
  refine ak (ah qv (af rfl (ae (.bool (decide (c13.2 = 0))) (af rfl ?_))))
  rw [hb1]
  iterate 4 refine ag rfl rfl ?_
  refine ae (.bool false) (af rfl (ag rfl rfl (ag rfl rfl (ae (.bool false) (aa (aq rfl (aT (aU (ah qv (ae (.agg (TNet.c c13.1)) (af rfl (ae (.bool (decide (c13.2 = 0))) (ay (zj:=[(0,.box (TNet.c c13.1)),(1,.box (TNet.c c13.1))]) (zk:=2) rfl rfl rfl rfl rfl ?_)))))))))))))
  refine af rfl (aa (aj ?_))
  obtain rfl:=Option.some.inj hR
  exact ai [] (.inr rfl) rfl rfl rfl rfl
 ·first | replace hR:=kz hb1 hR | (try simp only [hb1,bb] at hR)
  refine bq (t:=1) rfl (by simp) (fun ge8=>?_)
  rw [List.length_map] at ge8
  generalize gi8:F7l1 c13.1 0 script1 = gh8 at hR
  refine aY (fun k s=>∃ (i8:Nat) (n6:TNet),i8 ≤ script1.length ∧ k = script1.length - i8 ∧ F7l1 n6 i8 (script1.drop i8) = gh8 ∧ s = ⟨[(1,.ro 14 (script1.map TAct.c)),(4,.ptr 0 0),(6,.ptr 1 0),(7,.int .i64 c13.2),(8,.int .i64 (i8:Int))],[(0,.box [.nils,.nils,.nils,.nils,.bool false]),(1,.box (TNet.c n6))],2⟩) script1.length (by refine ⟨_,?_,0,c13.1,(by omega),rfl,gi8,rfl⟩; exact Conv.keep [0,1] [] [1,4,6,7,8] rfl rfl (qx rfl rfl (qx rfl rfl (qx rfl rfl (qx rfl rfl (qx rfl rfl qy))))) rfl rfl) ?_
  rintro _ _ ⟨i8,n6,gj8,rfl,gg8,rfl⟩ gb8 gd8 gk8 ga8 gc8 gf8
  refine ak (ah qv (af rfl (ae (.bool (decide (c13.2 = 0))) (af rfl ?_))))
  rw [hb1]
  iterate 2 refine af rfl ?_
  refine ar (v':=.int .i64 (script1.length:Int)) rfl rfl rfl rfl (ww _ _) ?_
  iterate 2 refine ae (.bool (decide ((i8:Int) < (script1.length:Int)))) ?_
  refine af rfl ?_
  rcases qq (decide ((i8:Int) < (script1.length:Int))) with hb9 | hb9
  ·rw [hb9]
   rw [bc hb9,F7l1] at gg8
   refine ag rfl rfl (ag rfl rfl (ae (.bool false) (aa (aq rfl (aT ?_)))))
   refine aU (gc8 _ ?_)
   subst gg8
   replace hR:=be hR; try dsimp only at hR
   refine ah qv (ae (.agg (TNet.c n6)) (af rfl (ae (.bool (decide (c13.2 = 0))) (ay (zj:=[(0,.box (TNet.c n6)),(1,.box (TNet.c n6))]) (zk:=2) rfl rfl rfl rfl rfl (af rfl (aa (aj ?_)))))))
   obtain rfl:=Option.some.inj hR
   exact ai [] (.inr rfl) rfl rfl rfl rfl
  ·rw [hb9]
   obtain ⟨x8,hx8,hd8,hlt8⟩:=aR hb9
   rw [hd8,F7l1] at gg8
   refine af rfl ?_
   iterate 2 refine ae (.bool (decide ((i8:Int) < 30))) ?_
   refine aa ?_
   rcases qq (decide ((i8:Int) < 30)) with hb10 | hb10
   ·rw [hb10]; try simp only [hb10,bb] at gg8
    refine aq rfl (aT ?_)
    refine aU (gc8 _ ?_)
    subst gg8
    replace hR:=be hR; try dsimp only at hR
    refine ah qv (ae (.agg (TNet.c n6)) (af rfl (ae (.bool (decide (c13.2 = 0))) (ay (zj:=[(0,.box (TNet.c n6)),(1,.box (TNet.c n6))]) (zk:=2) rfl rfl rfl rfl rfl (af rfl (aa (aj ?_)))))))
    obtain rfl:=Option.some.inj hR
    exact ai [] (.inr rfl) rfl rfl rfl rfl
   ·rw [hb10]; try simp only [hb10,bb] at gg8
    refine ap rfl (aA (ak ?_))
    refine aI (fun _ hK11=>?_)
    refine ah qv (af rfl (af rfl (aZ (c:=TAct.c) (x:=x8) rfl rfl rfl (Int.natCast_nonneg _) hx8 (ae (.agg (TAct.c x8)) ?_))))
    rcases wy gg8 with ⟨_,gg8⟩ | ⟨c34,hc34,gg8⟩
    ·subst gg8
     first | replace hR:=wz hR | replace hR:=aJ hR
     cases hR
    try dsimp only at gg8
    try dsimp only at gg8
    refine av (r:=.bool c34) rfl rfl rfl (f13_ok x8 _ hc34) rfl rfl (aa ?_)
    rcases qq (c34) with hb12 | hb12
    ·rw [hb12]; try simp only [hb12,bb] at gg8
     refine aq rfl (aA ?_)
     refine aB (am (hK11 _ ?_))
     refine az qv (af rfl (ar (v':=.int .i64 ((i8 + 1:Nat):Int)) rfl rfl rfl rfl (congrArg (PVal.int .i64) (aO hlt8 ge8)) (af rfl (aa ?_))))
     refine aB (am ?_)
     refine ga8 _ (script1.length - (i8 + 1)) _ (by omega) ?_ ⟨i8 + 1,n6,(by omega),rfl,gg8,rfl⟩
     exact Conv.keep [0,1] [] [1,4,6,7,8] rfl rfl (qx rfl rfl (qx rfl rfl (qx rfl rfl (qx rfl rfl (qx rfl rfl qy))))) rfl rfl
    ·rw [hb12]; try simp only [hb12,bb] at gg8
     refine ap rfl (ak (aE qv (au (.agg (TNet.c n6)) (aG rfl (aG rfl (bn (c:=TAct.c) (x:=x8) rfl rfl rfl (Int.natCast_nonneg _) hx8 (au (.agg (TAct.c x8)) ?_)))))))
     rcases wy gg8 with ⟨_,gg8⟩ | ⟨c41,hc41,gg8⟩
     ·subst gg8
      first | replace hR:=wz hR | replace hR:=aJ hR
      cases hR
     try dsimp only at gg8
     refine aL (r:=.tup [.agg (TNet.c c41.1),.int .i64 c41.2]) rfl rfl rfl (f14_ok n6 x8 _ hc41) rfl rfl (aG rfl (au (.agg (TNet.c c41.1)) (au (.int .i64 c41.2) (bj (v':=.ptr 2 0) (zj:=[(0,.box [.nils,.nils,.nils,.nils,.bool false]),(1,.box (TNet.c n6)),(2,.box [.nils,.nils,.nils,.nils,.bool false])]) (zk:=3) rfl rfl rfl rfl rfl rfl rfl (aV (zj:=[(0,.box [.nils,.nils,.nils,.nils,.bool false]),(1,.box (TNet.c n6)),(2,.box (TNet.c c41.1))]) (zk:=3) rfl rfl rfl rfl rfl (aG rfl (aH rfl (az qv (ae (.agg (TNet.c c41.1)) (ay (zj:=[(0,.box [.nils,.nils,.nils,.nils,.bool false]),(1,.box (TNet.c c41.1)),(2,.box (TNet.c c41.1))]) (zk:=3) rfl rfl rfl rfl rfl (aa ?_)))))))))))
     refine aB (am (hK11 _ ?_))
     refine az qv (af rfl (ar (v':=.int .i64 ((i8 + 1:Nat):Int)) rfl rfl rfl rfl (congrArg (PVal.int .i64) (aO hlt8 ge8)) (af rfl (aa ?_))))
     refine aB (am ?_)
     refine ga8 _ (script1.length - (i8 + 1)) _ (by omega) ?_ ⟨i8 + 1,c41.1,(by omega),rfl,gg8,rfl⟩
     exact Conv.keep [0,1] [] [1,4,6,7,8] rfl rfl (qx rfl rfl (qx rfl rfl (qx rfl rfl (qx rfl rfl (qx rfl rfl qy))))) rfl rfl
theorem f9_ok (n0:TNet) (picks1:List Int) (R:TNet × Int) (hR:F9 n0 picks1 = some R):FnOk Tryz.prog 9 [.agg (TNet.c n0),.ro 1 (picks1.map co)] [] 0 (.tup [.agg (TNet.c R.1),.int .i64 R.2]) [] 0:=by
 refine FnOk.wk i9 rfl rfl ?_
 unfold F9 at hR
 try dsimp only at hR
 change WK _ _ _ [ac9] _ ⟨[(0,.agg (TNet.c n0)),(1,.ro 1 (picks1.map co))],[],0⟩
 unfold ac9
 refine ah qv (aw (v':=.ptr 0 0) (zj:=[(0,.box (TNet.c n0))]) (zk:=1) rfl rfl rfl rfl rfl rfl rfl (aw (v':=.ptr 1 0) (zj:=[(0,.box (TNet.c n0)),(1,.box [.nils,.nils,.nils,.nils,.bool false])]) (zk:=2) rfl rfl rfl rfl rfl rfl rfl (af rfl (aa (ah qv (af rfl (aa ?_)))))))
 refine bq (t:=1) rfl (by simp) (fun hln1_5=>?_)
 rw [List.length_map] at hln1_5
 generalize gi5:F9l1 picks1 100000 0 n0 = gh5 at hR
 refine aY (fun k s=>∃ (many6:Int) (n2:TNet),F9l1 picks1 k many6 n2 = gh5 ∧ s = ⟨[(1,.ro 1 (picks1.map co)),(2,.ptr 0 0),(4,.ptr 1 0),(6,.int .i64 many6)],[(0,.box (TNet.c n2)),(1,.box [.nils,.nils,.nils,.nils,.bool false])],2⟩) 100000 (by refine ⟨_,?_,0,n0,gi5,rfl⟩; exact Conv.keep [0,1] [] [1,2,4,6] rfl rfl (qx rfl rfl (qx rfl rfl (qx rfl rfl (qx rfl rfl qy)))) rfl rfl) ?_
 rintro k5 _ ⟨many6,n2,gg5,rfl⟩ gb5 gd5 gk5 ga5 gc5 gf5
 rcases k5 with _ | f5
 ·unfold F9l1 at gg5
  subst gg5
  first | replace hR:=wz hR | replace hR:=aJ hR
  cases hR
 unfold F9l1 at gg5; try dsimp only at gg5
 refine ak ?_
 refine aI (fun _ hK6=>?_)
 refine ah qv (af rfl (aa (ak (ah qv (af rfl (af rfl (ar (v':=.int .i64 (picks1.length:Int)) rfl rfl rfl rfl (ww _ _) (ae (.bool (decide (many6 < (picks1.length:Int)))) (aa ?_)))))))))
 rcases qq (decide (many6 < (picks1.length:Int))) with hb7 | hb7
 ·rw [hb7]; try simp only [hb7,bb] at gg5
  refine aq rfl (aA (ah qv (ae (.agg (TNet.c n2)) (af rfl ?_))))
  rcases wy gg5 with ⟨_,gg5⟩ | ⟨c23,hc23,gg5⟩
  ·subst gg5
   first | replace hR:=wz hR | replace hR:=aJ hR
   cases hR
  try dsimp only at gg5
  refine av (r:=.tup [.agg (TNet.c c23.1),.bool c23.2]) rfl rfl rfl (f28_ok n2 0 _ hc23) rfl rfl (af rfl (ae (.agg (TNet.c c23.1)) (ae (.bool c23.2) (aw (v':=.ptr 2 0) (zj:=[(0,.box (TNet.c n2)),(1,.box [.nils,.nils,.nils,.nils,.bool false]),(2,.box [.nils,.nils,.nils,.nils,.bool false])]) (zk:=3) rfl rfl rfl rfl rfl rfl rfl (ay (zj:=[(0,.box (TNet.c n2)),(1,.box [.nils,.nils,.nils,.nils,.bool false]),(2,.box (TNet.c c23.1))]) (zk:=3) rfl rfl rfl rfl rfl (af rfl (aa (ak (ah qv (af rfl (ae (.bool (!c23.2)) (aa ?_))))))))))))
  rcases qq (c23.2) with hb8 | hb8
  ·rw [hb8]; try simp only [hb8,bb] at gg5
   refine ap rfl (ah qv (ae (.agg (TNet.c n2)) (af rfl (ay (zj:=[(0,.box (TNet.c n2)),(1,.box (TNet.c n2)),(2,.box (TNet.c c23.1))]) (zk:=3) rfl rfl rfl rfl rfl (af rfl (aa (aj (aS ?_))))))))
   refine aS (gf5 _ _ ?_)
   subst gg5
   first | replace hR:=dC hR | replace hR:=cf hR | replace hR:=be hR
   try dsimp only at hR
   obtain rfl:=Option.some.inj hR
   exact ai [] (.inr rfl) rfl rfl rfl rfl
  ·rw [hb8]; try simp only [hb8,bb] at gg5
   refine aq rfl (aA (az qv (ae (.agg (TNet.c c23.1)) (ay (zj:=[(0,.box (TNet.c c23.1)),(1,.box [.nils,.nils,.nils,.nils,.bool false]),(2,.box (TNet.c c23.1))]) (zk:=3) rfl rfl rfl rfl rfl (aa ?_)))))
   refine aB (am (hK6 _ ?_))
   refine az qv (af rfl (ae (.int .i64 (IntKind.i64.wrap (many6 + 1))) (af rfl (aa ?_))))
   refine aB (am ?_)
   refine ga5 _ f5 _ (Nat.lt_succ_self _) ?_ ⟨(IntKind.i64.wrap (many6 + 1)),c23.1,gg5,rfl⟩
   exact Conv.keep [0,1] [] [1,2,4,6] rfl rfl (qx rfl rfl (qx rfl rfl (qx rfl rfl (qx rfl rfl qy)))) rfl rfl
 ·rw [hb7]; try simp only [hb7,bb] at gg5
  refine ap rfl (az qv (af rfl (af rfl ?_)))
  rcases wy gg5 with ⟨_,gg5⟩ | ⟨x908,hx908,gg5⟩
  ·subst gg5
   first | replace hR:=wz hR | replace hR:=aJ hR
   cases hR
  try dsimp only at gg5
  obtain ⟨hx9080,hx908j,hx908l,hx908⟩:=ky hx908
  refine aZ (c:=co) (x:=x908) rfl rfl rfl hx9080 hx908 (ae (.int .i64 x908) (af rfl (aa (ah qv (ae (.agg (TNet.c n2)) (af rfl ?_))))))
  rcases wy gg5 with ⟨_,gg5⟩ | ⟨c23,hc23,gg5⟩
  ·subst gg5
   first | replace hR:=wz hR | replace hR:=aJ hR
   cases hR
  try dsimp only at gg5
  refine av (r:=.tup [.agg (TNet.c c23.1),.bool c23.2]) rfl rfl rfl (f28_ok n2 x908 _ hc23) rfl rfl (af rfl (ae (.agg (TNet.c c23.1)) (ae (.bool c23.2) (aw (v':=.ptr 2 0) (zj:=[(0,.box (TNet.c n2)),(1,.box [.nils,.nils,.nils,.nils,.bool false]),(2,.box [.nils,.nils,.nils,.nils,.bool false])]) (zk:=3) rfl rfl rfl rfl rfl rfl rfl (ay (zj:=[(0,.box (TNet.c n2)),(1,.box [.nils,.nils,.nils,.nils,.bool false]),(2,.box (TNet.c c23.1))]) (zk:=3) rfl rfl rfl rfl rfl (af rfl (aa (ak (ah qv (af rfl (ae (.bool (!c23.2)) (aa ?_))))))))))))
  rcases qq (c23.2) with hb10 | hb10
  ·rw [hb10]; try simp only [hb10,bb] at gg5
   refine ap rfl (ah qv (ae (.agg (TNet.c n2)) (af rfl (ay (zj:=[(0,.box (TNet.c n2)),(1,.box (TNet.c n2)),(2,.box (TNet.c c23.1))]) (zk:=3) rfl rfl rfl rfl rfl (af rfl (aa (aj (aS ?_))))))))
   refine aS (gf5 _ _ ?_)
   subst gg5
   first | replace hR:=dC hR | replace hR:=cf hR | replace hR:=be hR
   try dsimp only at hR
   obtain rfl:=Option.some.inj hR
   exact ai [] (.inr rfl) rfl rfl rfl rfl
  ·rw [hb10]; try simp only [hb10,bb] at gg5
   refine aq rfl (aA (az qv (ae (.agg (TNet.c c23.1)) (ay (zj:=[(0,.box (TNet.c c23.1)),(1,.box [.nils,.nils,.nils,.nils,.bool false]),(2,.box (TNet.c c23.1))]) (zk:=3) rfl rfl rfl rfl rfl (aa ?_)))))
   refine aB (am (hK6 _ ?_))
   refine az qv (af rfl (ae (.int .i64 (IntKind.i64.wrap (many6 + 1))) (af rfl (aa ?_))))
   refine aB (am ?_)
   refine ga5 _ f5 _ (Nat.lt_succ_self _) ?_ ⟨(IntKind.i64.wrap (many6 + 1)),c23.1,gg5,rfl⟩
   exact Conv.keep [0,1] [] [1,2,4,6] rfl rfl (qx rfl rfl (qx rfl rfl (qx rfl rfl (qx rfl rfl qy)))) rfl rfl
theorem f26_ok  (R:(List zx)) (hR:F26 = some R):FnOk Tryz.prog 26 [] [] 0 (.ro 12 (R.map zx.c)) [] 0:=by
 refine FnOk.wk i26 rfl rfl ?_
 unfold F26 at hR
 try dsimp only at hR
 change WK _ _ _ [ac26] _ ⟨[],[],0⟩
 unfold ac26
 refine ah qv (af rfl (aa (ak (aE qv (RD.pureW (v':=.agg [.int .i64 1,.bool true,.ro 6 (([]:List zv).map zv.c),.int .i64 (-1),.int .i64 0,.int .i64 16777215,.ro 1 (([]:List Int).map bI),.int .i64 (-1),.int .i64 0,.int .i64 (-1),.bool false,.int .u32 0]) rfl rfl rfl rfl (.agg (.cons .refl (.cons .refl (.cons .nil (.cons .refl (.cons .refl (.cons .refl (.cons .nil .refl)))))))) (bj (v':=.own 0 12 0 (([(⟨1,true,([]:List zv),(-1),0,16777215,([]:List Int),(-1),0,(-1),false,0⟩ : zx)]:List zx)).length) (zj:=[(0,.row 12 93 (([(⟨1,true,([]:List zv),(-1),0,16777215,([]:List Int),(-1),0,(-1),false,0⟩ : zx)]:List zx).map zx.c))]) (zk:=1) rfl rfl rfl rfl rfl rfl rfl (aF (v':=.own 0 12 0 (([(⟨1,true,([]:List zv),(-1),0,16777215,([]:List Int),(-1),0,(-1),false,0⟩ : zx)]:List zx)).length) rfl rfl rfl rfl rfl (RD.done0 (aj ?_)))))))))
 obtain rfl:=Option.some.inj hR
 exact ai [0] (.inr rfl) rfl rfl (qz (aN rfl rfl) qw) rfl
theorem f8_ok  (R:Bool) (hR:F8 = some R):FnOk Tryz.prog 8 [] [] 0 (.bool R) [] 0:=by
 refine FnOk.wk i8 rfl rfl ?_
 unfold F8 at hR
 try dsimp only at hR
 change WK _ _ _ [ac8] _ ⟨[],[],0⟩
 unfold ac8
 refine ah qv (af rfl (aa (ah qv ?_)))
 obtain ⟨c7,hc7,hR⟩:=wx hR; try dsimp only at hR
 refine av (r:=.tup [.agg (TNet.c c7.1),.int .i64 c7.2]) rfl rfl rfl (f11_ok 2 _ hc7) rfl rfl (af rfl (ae (.agg (TNet.c c7.1)) (ae (.int .i64 c7.2) (aw (v':=.ptr 0 0) (zj:=[(0,.box [.nils,.nils,.nils,.nils,.bool false])]) (zk:=1) rfl rfl rfl rfl rfl rfl rfl (ay (zj:=[(0,.box (TNet.c c7.1))]) (zk:=1) rfl rfl rfl rfl rfl (af rfl (aa (ak (aE qv (au (.agg (TNet.c c7.1)) ?_))))))))))
 obtain ⟨c12,hc12,hR⟩:=wx hR; try dsimp only at hR
 try dsimp only at hR
 refine aL (r:=.ro 12 (c12.map zx.c)) rfl rfl rfl (f26_ok  _ hc12) rfl rfl ?_
 obtain ⟨c13,hc13,hR⟩:=wx hR; try dsimp only at hR
 refine aL (r:=.tup [.agg (TNet.c c13.1),.int .i64 c13.2]) rfl rfl rfl (f25_ok c7.1 0 1 c12 _ hc13) rfl rfl (aG rfl (au (.agg (TNet.c c13.1)) (au (.int .i64 c13.2) (aV (zj:=[(0,.box (TNet.c c13.1))]) (zk:=1) rfl rfl rfl rfl rfl (aG rfl (aH rfl (ak (aE qv (aF (v':=.agg (TNet.c c13.1)) rfl rfl rfl rfl rfl (aF (v':=.agg [.int .i64 1,.int .u32 0]) rfl rfl rfl rfl rfl (RD.bsro (es:=(([(⟨1,0⟩ : THop)]:List THop)).map THop.c) rfl rfl rfl rfl (aF (v':=.agg [.int .u32 0,.int .i64 0,.int .i64 2,.int .i64 0,.int .i64 110,.int .i64 0,.int .u32 0,.bool false,.int .i64 0,.ro 2 (([(⟨1,0⟩ : THop)]:List THop).map THop.c)]) rfl rfl rfl rfl rfl ?_))))))))))))
 obtain ⟨c21,hc21,hR⟩:=wx hR; try dsimp only at hR
 refine aL (r:=.tup [.agg (TNet.c c21.1),.int .i64 c21.2]) rfl rfl rfl (f27_ok c13.1 0 (⟨(⟨0,0⟩ : zy),2,0,110,0,0,false,0,([(⟨1,0⟩ : THop)]:List THop)⟩ : qj) _ hc21) rfl rfl (aF (v':=.tup [.agg (TNet.c c21.1),.int .i64 c21.2]) rfl rfl rfl rfl rfl (aF (v':=.agg (TNet.c c21.1)) rfl rfl rfl rfl rfl (aF (v':=.int .i64 c21.2) rfl rfl rfl rfl rfl (aV (zj:=[(0,.box (TNet.c c21.1))]) (zk:=1) rfl rfl rfl rfl rfl (aF (v':=.int .i64 c21.2) rfl rfl rfl rfl rfl (RD.done0 (ah qv (ae (.agg (TNet.c c21.1)) ?_))))))))
 obtain ⟨c26,hc26,hR⟩:=wx hR; try dsimp only at hR
 refine av (r:=.tup [.agg (TNet.c c26.1),.int .i64 c26.2]) rfl rfl rfl (FnOk.weak (f9_ok c21.1 ([]:List Int) _ hc26) (.cons .refl (.cons .nil .refl))) rfl rfl (af rfl (ae (.agg (TNet.c c26.1)) (ae (.int .i64 c26.2) (ay (zj:=[(0,.box (TNet.c c26.1))]) (zk:=1) rfl rfl rfl rfl rfl (af rfl (aa (ah qv (af rfl (ae (.bool (decide (c7.2 = 0))) (af rfl ?_))))))))))
 rcases qq (decide (c7.2 = 0)) with hb1 | hb1
 ·rw [hb1]; first | replace hR:=kw hb1 hR | (try simp only [hb1,bb] at hR)
  refine ag rfl rfl (ag rfl rfl (ae (.bool false) (af rfl (ag rfl rfl (ag rfl rfl (ae (.bool false) (af rfl (ag rfl rfl (ag rfl rfl (ae (.bool false) (af rfl ?_)))))))))))
  iterate 4 refine ag rfl rfl ?_
  refine ae (.bool false) (af rfl ?_)
  iterate 6 refine ag rfl rfl ?_
  refine ae (.bool false) (af rfl ?_)
  iterate 7 refine ag rfl rfl ?_
  refine ae (.bool false) (af rfl (aa (aj ?_)))
  obtain rfl:=Option.some.inj hR
  exact ai [] (.inr rfl) rfl rfl rfl rfl
 ·rw [hb1]; first | replace hR:=kz hb1 hR | (try simp only [hb1,bb] at hR)
  refine af rfl ?_
  iterate 2 refine ae (.bool (decide (c13.2 = 0))) ?_
  refine af rfl ?_
  rcases qq (decide (c13.2 = 0)) with hb2 | hb2
  ·rw [hb2]; first | replace hR:=kw hb2 hR | (try simp only [hb2,bb] at hR)
   refine ag rfl rfl (ag rfl rfl (ae (.bool false) (af rfl (ag rfl rfl (ag rfl rfl (ae (.bool false) (af rfl ?_)))))))
   iterate 4 refine ag rfl rfl ?_
   refine ae (.bool false) (af rfl ?_)
   iterate 6 refine ag rfl rfl ?_
   refine ae (.bool false) (af rfl ?_)
   iterate 7 refine ag rfl rfl ?_
   refine ae (.bool false) (af rfl (aa (aj ?_)))
   obtain rfl:=Option.some.inj hR
   exact ai [] (.inr rfl) rfl rfl rfl rfl
  ·rw [hb2]; first | replace hR:=kz hb2 hR | (try simp only [hb2,bb] at hR)
   refine af rfl ?_
   iterate 2 refine ae (.bool (decide (c21.2 = 0))) ?_
   refine af rfl ?_
   rcases qq (decide (c21.2 = 0)) with hb3 | hb3
   ·rw [hb3]; first | replace hR:=kw hb3 hR | (try simp only [hb3,bb] at hR)
    refine ag rfl rfl (ag rfl rfl (ae (.bool false) (af rfl ?_)))
    iterate 4 refine ag rfl rfl ?_
    refine ae (.bool false) (af rfl ?_)
    iterate 6 refine ag rfl rfl ?_
    refine ae (.bool false) (af rfl ?_)
    iterate 7 refine ag rfl rfl ?_
    refine ae (.bool false) (af rfl (aa (aj ?_)))
    obtain rfl:=Option.some.inj hR
    exact ai [] (.inr rfl) rfl rfl rfl rfl
   ·rw [hb3]; first | replace hR:=kz hb3 hR | (try simp only [hb3,bb] at hR)
    refine af rfl ?_
    iterate 2 refine ae (.bool (decide (c26.2 = 2))) ?_
    refine af rfl ?_
    rcases qq (decide (c26.2 = 2)) with hb4 | hb4
    ·rw [hb4]; first | replace hR:=kw hb4 hR | (try simp only [hb4,bb] at hR)
     iterate 4 refine ag rfl rfl ?_
     refine ae (.bool false) (af rfl ?_)
     iterate 6 refine ag rfl rfl ?_
     refine ae (.bool false) (af rfl ?_)
     iterate 7 refine ag rfl rfl ?_
     refine ae (.bool false) (af rfl (aa (aj ?_)))
     obtain rfl:=Option.some.inj hR
     exact ai [] (.inr rfl) rfl rfl rfl rfl
    ·rw [hb4]; first | replace hR:=kz hb4 hR | (try simp only [hb4,bb] at hR)
     refine ae (.ptr 0 1) (ae (.ro 1 (c26.1.Sel.map (wv 10 qj.c))) (ar (v':=.int .i64 (c26.1.Sel.length:Int)) rfl rfl rfl rfl (ww _ _) (ae (.bool (decide ((c26.1.Sel.length:Int) = 2))) (ae (.bool (decide ((c26.1.Sel.length:Int) = 2))) (af rfl ?_)))))
     rcases qq (decide ((c26.1.Sel.length:Int) = 2)) with hb5 | hb5
     ·rw [hb5]; first | replace hR:=kw hb5 hR | (try simp only [hb5,bb] at hR)
      iterate 6 refine ag rfl rfl ?_
      refine ae (.bool false) (af rfl ?_)
      iterate 7 refine ag rfl rfl ?_
      refine ae (.bool false) (af rfl (aa (aj ?_)))
      obtain rfl:=Option.some.inj hR
      exact ai [] (.inr rfl) rfl rfl rfl rfl
     ·rw [hb5]; first | replace hR:=kz hb5 hR | (try simp only [hb5,bb] at hR)
      refine ae (.ptr 0 1) (ae (.ro 1 (c26.1.Sel.map (wv 10 qj.c))) ?_)
      obtain ⟨x905,hx905,hR⟩:=wx hR; try dsimp only at hR
      obtain ⟨hx9050,hx905j,hx905l,hx905⟩:=ky hx905
      refine aZ (c:=(wv 10 qj.c)) (x:=x905) rfl rfl rfl hx9050 hx905 (ae (.ro 10 (x905.map qj.c)) (ar (v':=.int .i64 (x905.length:Int)) rfl rfl rfl rfl (ww _ _) (ae (.bool (decide ((x905.length:Int) = 1))) (ae (.bool (decide ((x905.length:Int) = 1))) (af rfl ?_)))))
      rcases qq (decide ((x905.length:Int) = 1)) with hb7 | hb7
      ·rw [hb7]; first | replace hR:=kw hb7 hR | (try simp only [hb7,bb] at hR)
       iterate 7 refine ag rfl rfl ?_
       refine ae (.bool false) (af rfl (aa (aj ?_)))
       obtain rfl:=Option.some.inj hR
       exact ai [] (.inr rfl) rfl rfl rfl rfl
      ·rw [hb7]; first | replace hR:=kz hb7 hR | (try simp only [hb7,bb] at hR)
       refine ae (.ptr 0 1) (ae (.ro 1 (c26.1.Sel.map (wv 10 qj.c))) (aZ (c:=(wv 10 qj.c)) (x:=x905) rfl rfl rfl hx9050 hx905 (ae (.ro 10 (x905.map qj.c)) ?_)))
       obtain ⟨x907,hx907,hR⟩:=wx hR; try dsimp only at hR
       obtain ⟨hx9070,hx907j,hx907l,hx907⟩:=ky hx907
       refine aZ (c:=qj.c) (x:=x907) rfl rfl rfl hx9070 hx907 (ae (.rptr [.bool x907.Leaked,.int .i64 x907.From,.ro 2 (x907.Hops.map THop.c)]) (ae (.bool x907.Leaked) (ae (.bool x907.Leaked) (af rfl (aa (aj ?_))))))
       obtain rfl:=Option.some.inj hR
       exact ai [] (.inr rfl) rfl rfl rfl rfl
theorem f43_ok (c0:qj) (R:Bool) (hR:F43 c0 = R):FnOk Tryz.prog 43 [.agg (qj.c c0)] [] 0 (.bool R) [] 0:=by
 refine FnOk.wk i43 rfl rfl ?_
 unfold F43 at hR
 change WK _ _ _ [ac43] _ ⟨[(0,.agg (qj.c c0))],[],0⟩
 unfold ac43
 refine ah qv (aw (v':=.ptr 0 0) (zj:=[(0,.box (qj.c c0))]) (zk:=1) rfl rfl rfl rfl rfl rfl rfl (af rfl (aa (ah qv (ae (.ptr 0 7) (ae (.bool c0.Leaked) (af rfl (aa (aj ?_)))))))))
 subst hR
 exact ai [] (.inr rfl) rfl rfl rfl rfl
theorem f45_ok (c0:qj) (a1:zz) (R:Bool) (hR:F45 c0 a1 = R):FnOk Tryz.prog 45 [.agg (qj.c c0),.rptr (zz.c a1)] [] 0 (.bool R) [] 0:=by
 refine FnOk.wk i45 rfl rfl ?_
 unfold F45 at hR
 change WK _ _ _ [ac45] _ ⟨[(0,.agg (qj.c c0)),(1,.rptr (zz.c a1))],[],0⟩
 unfold ac45
 refine ah qv (aw (v':=.ptr 0 0) (zj:=[(0,.box (qj.c c0))]) (zk:=1) rfl rfl rfl rfl rfl rfl rfl (af rfl (aa (ah qv (ae (.agg (qj.c c0)) (ae (.rptr (zz.c a1)) (ae (.int .i64 a1.From) ?_)))))))
 generalize hc7:F46 c0 a1.From = c7 at hR
 try dsimp only at hR
 refine av (r:=.bool c7) rfl rfl rfl (f46_ok c0 a1.From _ hc7) rfl rfl (af rfl (aa (aj ?_)))
 subst hR
 exact ai [] (.inr rfl) rfl rfl rfl rfl
theorem f19_ok (n0:TNet) (R:TNet) (hR:F19 n0 = some R):FnOk Tryz.prog 19 [.agg (TNet.c n0)] [] 0 (.agg (TNet.c R)) [] 0:=by
 refine FnOk.wk i19 rfl rfl ?_
 unfold F19 at hR
 try dsimp only at hR
 change WK _ _ _ [ac19] _ ⟨[(0,.agg (TNet.c n0))],[],0⟩
 unfold ac19
 refine ah qv (aw (v':=.ptr 0 0) (zj:=[(0,.box (TNet.c n0))]) (zk:=1) rfl rfl rfl rfl rfl rfl rfl (aw (v':=.ptr 1 0) (zj:=[(0,.box (TNet.c n0)),(1,.box [.nils,.nils,.nils,.nils,.bool false])]) (zk:=2) rfl rfl rfl rfl rfl rfl rfl (aa (ah qv (ae (.agg (TNet.c n0)) ?_)))))
 obtain ⟨c16,hc16,hR⟩:=wx hR; try dsimp only at hR
 try dsimp only at hR
 refine bd (r':=.ptr 2 0) (zj:=[(0,.box (TNet.c n0)),(1,.box [.nils,.nils,.nils,.nils,.bool false]),(6,.row 3 108 (c16.Work.map zw.c)),(5,.row 3 84 (c16.L.map zz.c)),(4,.row 1 34 (c16.Sel.map (wv 10 qj.c))),(3,.row 1 36 (c16.T.map qk.c)),(2,.box [.own 3 1 0 c16.T.length,.own 4 1 0 c16.Sel.length,.own 5 3 0 c16.L.length,.own 6 3 0 c16.Work.length,.bool c16.Over])]) (zk:=7) [] [] rfl rfl rfl rfl rfl rfl (f41_ok n0 _ hc16) (.inl rfl) rfl rfl rfl (af rfl (aa (ah qv (af rfl (ae (.ptr 2 0) (ae (.ptr 2 3) (ay (zj:=[(0,.box (TNet.c n0)),(1,.box [.nils,.nils,.nils,.nils,.bool false]),(6,.row 3 108 (c16.Work.map zw.c)),(5,.row 3 84 (c16.L.map zz.c)),(4,.row 1 34 (c16.Sel.map (wv 10 qj.c))),(3,.row 1 36 (c16.T.map qk.c)),(2,.box [.own 3 1 0 c16.T.length,.own 4 1 0 c16.Sel.length,.own 5 3 0 c16.L.length,.nils,.bool c16.Over])]) (zk:=7) rfl rfl rfl rfl rfl (aa (ak (ah qv (af rfl (ae (.ptr 2 0) (ae (.ptr 2 0) ?_)))))))))))))
 refine ae (.own 3 1 0 c16.T.length) (ae (.int .i64 (c16.T.length:Int)) (af rfl (aa ?_)))
 generalize gi144:F19l7 c16 1000 0 c16.T = gh144 at hR
 refine aY (fun k s=>∃ (t25:Int) (t23:List qk),F19l7 c16 k t25 t23 = gh144 ∧ s = ⟨[(2,.ptr 0 0),(3,.ptr 1 0),(23,.own 2 1 0 t23.length),(24,.int .i64 (c16.T.length:Int)),(25,.int .i64 t25)],[(0,.box [.nils,.nils,.nils,.nils,.bool false]),(1,.box [.own 2 1 0 t23.length,.own 3 1 0 c16.Sel.length,.own 4 3 0 c16.L.length,.nils,.bool c16.Over]),(2,.row 1 36 (t23.map qk.c)),(3,.row 1 34 (c16.Sel.map (wv 10 qj.c))),(4,.row 3 84 (c16.L.map zz.c))],5⟩) 1000 (by refine ⟨_,?_,0,c16.T,gi144,rfl⟩; exact Conv.keep [1,2,3,4,5] [] [2,3,23,24,25] rfl rfl (qx rfl rfl (qx rfl rfl (qx rfl rfl (qx rfl rfl (qx rfl rfl qy))))) rfl rfl) ?_
 rintro k144 _ ⟨t25,t23,gg144,rfl⟩ gb144 gd144 gk144 ga144 gc144 gf144
 rcases k144 with _ | f144
 ·unfold F19l7 at gg144
  subst gg144
  first | replace hR:=wz hR | replace hR:=aJ hR
  cases hR
 unfold F19l7 at gg144; try dsimp only at gg144
 refine ah qv (ae (.bool (decide (t25 < (c16.T.length:Int)))) (aa (ak ?_)))
 rcases qq (decide (t25 < (c16.T.length:Int))) with hb145 | hb145
 ·rw [hb145]; try simp only [hb145,bb] at gg144
  refine aq rfl (aT ?_)
  refine aU (gc144 _ ?_)
  subst gg144
  replace hR:=be hR; try dsimp only at hR
  refine ak (ah qv (af rfl (aa ?_)))
  generalize gi211:F19l6 c16 1000 0 t23 c16.Sel = gh211 at hR
  refine aY (fun k s=>∃ (t39:Int) (row2:List qk) (row3:List (List qj)),F19l6 c16 k t39 row2 row3 = gh211 ∧ s = ⟨[(2,.ptr 0 0),(3,.ptr 1 0),(39,.int .i64 t39)],[(0,.box [.nils,.nils,.nils,.nils,.bool false]),(1,.box [.own 2 1 0 row2.length,.own 3 1 0 row3.length,.own 4 3 0 c16.L.length,.nils,.bool c16.Over]),(2,.row 1 36 (row2.map qk.c)),(3,.row 1 34 (row3.map (wv 10 qj.c))),(4,.row 3 84 (c16.L.map zz.c))],5⟩) 1000 (by refine ⟨_,?_,0,t23,c16.Sel,gi211,rfl⟩; exact Conv.keep [0,1,2,3,4] [] [2,3,39] rfl rfl (qx rfl rfl (qx rfl rfl (qx rfl rfl qy))) rfl rfl) ?_
  rintro k211 _ ⟨t39,row2,row3,gg211,rfl⟩ gb211 gd211 gk211 ga211 gc211 gf211
  rcases k211 with _ | f211
  ·unfold F19l6 at gg211
   subst gg211
   first | replace hR:=wz hR | replace hR:=aJ hR
   cases hR
  unfold F19l6 at gg211; try dsimp only at gg211
  refine ah qv (ae (.bool (decide (t39 < 8))) (aa (ak ?_)))
  rcases qq (decide (t39 < 8)) with hb212 | hb212
  ·rw [hb212]; try simp only [hb212,bb] at gg211
   refine aq rfl (aT ?_)
   refine aU (gc211 _ ?_)
   subst gg211
   replace hR:=be hR; try dsimp only at hR
   refine ah qv (af rfl (ae (.ptr 1 0) (ae (.agg [.own 2 1 0 row2.length,.own 3 1 0 row3.length,.own 4 3 0 c16.L.length,.nils,.bool c16.Over]) (ay (zj:=[(0,.box [.own 2 1 0 row2.length,.own 3 1 0 row3.length,.own 4 3 0 c16.L.length,.nils,.bool c16.Over]),(1,.box [.own 2 1 0 row2.length,.own 3 1 0 row3.length,.own 4 3 0 c16.L.length,.nils,.bool c16.Over]),(2,.row 1 36 (row2.map qk.c)),(3,.row 1 34 (row3.map (wv 10 qj.c))),(4,.row 3 84 (c16.L.map zz.c))]) (zk:=5) rfl rfl rfl rfl rfl (aa (aj ?_))))))
   obtain rfl:=Option.some.inj hR
   exact cL [2,3,4] (.inr rfl) rfl rfl (qz (bG (qz (aN rfl rfl) (qz (aN rfl rfl) (qz (aN rfl rfl) (qz rfl (qz rfl qw)))))) qw) (.agg (.cons .refl (.cons .refl (.cons .refl (.cons .nil .refl)))))
  ·rw [hb212]; try simp only [hb212,bb] at gg211
   refine ap rfl (aA (ak ?_))
   refine aI (fun _ hK213=>?_)
   refine ak (ah qv (af rfl (ae (.ptr 1 0) (ae (.ptr 1 0) (ae (.own 2 1 0 row2.length) (ae (.int .i64 (row2.length:Int)) (af rfl (aa ?_))))))))
   generalize gi250:F19l5 row2 1000 0 row3 = gh250 at gg211
   refine aY (fun k s=>∃ (t46:Int) (row3x:List (List qj)),F19l5 row2 k t46 row3x = gh250 ∧ s = ⟨[(2,.ptr 0 0),(3,.ptr 1 0),(39,.int .i64 t39),(44,.own 2 1 0 row2.length),(45,.int .i64 (row2.length:Int)),(46,.int .i64 t46)],[(0,.box [.nils,.nils,.nils,.nils,.bool false]),(1,.box [.own 2 1 0 row2.length,.own 3 1 0 row3x.length,.own 4 3 0 c16.L.length,.nils,.bool c16.Over]),(2,.row 1 36 (row2.map qk.c)),(3,.row 1 34 (row3x.map (wv 10 qj.c))),(4,.row 3 84 (c16.L.map zz.c))],5⟩) 1000 (by refine ⟨_,?_,0,row3,gi250,rfl⟩; exact Conv.keep [0,1,2,3,4] [] [2,3,39,44,45,46] rfl rfl (qx rfl rfl (qx rfl rfl (qx rfl rfl (qx rfl rfl (qx rfl rfl (qx rfl rfl qy)))))) rfl rfl) ?_
   rintro k250 _ ⟨t46,row3x,gg250,rfl⟩ gb250 gd250 gk250 ga250 gc250 gf250
   rcases k250 with _ | f250
   ·unfold F19l5 at gg250
    subst gg250
    first | replace gg211:=wz gg211 | replace gg211:=aJ gg211
    subst gg211
    first | replace hR:=wz hR | replace hR:=aJ hR
    cases hR
   unfold F19l5 at gg250; try dsimp only at gg250
   refine ah qv (ae (.bool (decide (t46 < (row2.length:Int)))) (aa (ak ?_)))
   rcases qq (decide (t46 < (row2.length:Int))) with hb251 | hb251
   ·rw [hb251]; try simp only [hb251,bb] at gg250
    refine aq rfl (aT ?_)
    refine aU (gc250 _ ?_)
    subst gg250
    replace gg211:=be gg211; try dsimp only at gg211
    refine ah qv (af rfl (ae (.ptr 1 0) (ae (.ptr 1 2) (ae (.own 4 3 0 c16.L.length) (ae (.int .i64 (c16.L.length:Int)) (af rfl (aa ?_)))))))
    generalize gi261:F19l4 c16 row3x 1000 0 row2 = gh261 at gg211
    refine aY (fun k s=>∃ (t65:Int) (row2x:List qk),F19l4 c16 row3x k t65 row2x = gh261 ∧ s = ⟨[(2,.ptr 0 0),(3,.ptr 1 0),(39,.int .i64 t39),(63,.own 4 3 0 c16.L.length),(64,.int .i64 (c16.L.length:Int)),(65,.int .i64 t65)],[(0,.box [.nils,.nils,.nils,.nils,.bool false]),(1,.box [.own 2 1 0 row2x.length,.own 3 1 0 row3x.length,.own 4 3 0 c16.L.length,.nils,.bool c16.Over]),(2,.row 1 36 (row2x.map qk.c)),(3,.row 1 34 (row3x.map (wv 10 qj.c))),(4,.row 3 84 (c16.L.map zz.c))],5⟩) 1000 (by refine ⟨_,?_,0,row2,gi261,rfl⟩; exact Conv.keep [0,1,2,3,4] [] [2,3,39,63,64,65] rfl rfl (qx rfl rfl (qx rfl rfl (qx rfl rfl (qx rfl rfl (qx rfl rfl (qx rfl rfl qy)))))) rfl rfl) ?_
    rintro k261 _ ⟨t65,row2x,gg261,rfl⟩ gb261 gd261 gk261 ga261 gc261 gf261
    rcases k261 with _ | f261
    ·unfold F19l4 at gg261
     subst gg261
     first | replace gg211:=wz gg211 | replace gg211:=aJ gg211
     subst gg211
     first | replace hR:=wz hR | replace hR:=aJ hR
     cases hR
    unfold F19l4 at gg261; try dsimp only at gg261
    refine ah qv (ae (.bool (decide (t65 < (c16.L.length:Int)))) (aa (ak ?_)))
    rcases qq (decide (t65 < (c16.L.length:Int))) with hb262 | hb262
    ·rw [hb262]; try simp only [hb262,bb] at gg261
     refine aq rfl (aT ?_)
     refine aU (gc261 _ ?_)
     subst gg261
     replace gg211:=be gg211; try dsimp only at gg211
     refine aB (am (hK213 _ ?_))
     refine az qv (ae (.int .i64 (IntKind.i64.wrap (t39 + 1))) (af rfl (aa ?_)))
     refine aB (am ?_)
     refine ga211 _ f211 _ (Nat.lt_succ_self _) ?_ ⟨(IntKind.i64.wrap (t39 + 1)),row2x,row3x,gg211,rfl⟩
     exact Conv.keep [0,1,2,3,4] [] [2,3,39] rfl rfl (qx rfl rfl (qx rfl rfl (qx rfl rfl qy))) rfl rfl
    ·rw [hb262]; try simp only [hb262,bb] at gg261
     refine ap rfl (aA (ak ?_))
     refine aI (fun _ hK263=>?_)
     refine ah qv ?_
     rcases wy gg261 with ⟨_,gg261⟩ | ⟨x1163,hx1163,gg261⟩
     ·subst gg261
      first | replace gg211:=wz gg211 | replace gg211:=aJ gg211
      subst gg211
      first | replace hR:=wz hR | replace hR:=aJ hR
      cases hR
     try dsimp only at gg261
     obtain ⟨hx11630,hx1163j,hx1163l,hx1163⟩:=ky hx1163
     refine ar (v':=.eptr 4 3 t65.toNat 0) rfl rfl rfl (aK (c:=zz.c) (L:=c16.L) (j:=t65.toNat) rfl hx1163j hx1163l (by exact Nat.le_refl _)) rfl (ar (v':=.agg (zz.c x1163)) rfl rfl rfl (bf (c:=zz.c) (L:=c16.L) (x:=x1163) rfl hx1163 rfl) rfl (aw (v':=.ptr 5 0) (zj:=[(0,.box [.nils,.nils,.nils,.nils,.bool false]),(1,.box [.own 2 1 0 row2x.length,.own 3 1 0 row3x.length,.own 4 3 0 c16.L.length,.nils,.bool c16.Over]),(2,.row 1 36 (row2x.map qk.c)),(3,.row 1 34 (row3x.map (wv 10 qj.c))),(4,.row 3 84 (c16.L.map zz.c)),(5,.box [.int .i64 0,.int .i64 0,.nils])]) (zk:=6) rfl rfl rfl rfl rfl rfl rfl (ay (zj:=[(0,.box [.nils,.nils,.nils,.nils,.bool false]),(1,.box [.own 2 1 0 row2x.length,.own 3 1 0 row3x.length,.own 4 3 0 c16.L.length,.nils,.bool c16.Over]),(2,.row 1 36 (row2x.map qk.c)),(3,.row 1 34 (row3x.map (wv 10 qj.c))),(4,.row 3 84 (c16.L.map zz.c)),(5,.box (zz.c x1163))]) (zk:=6) rfl rfl rfl rfl rfl (aa (ak ?_)))))
     refine bz (st':=⟨[(2,.ptr 0 0),(3,.ptr 1 0),(9,.rptr (zz.c x1163)),(39,.int .i64 t39),(63,.own 4 3 0 c16.L.length),(64,.int .i64 (c16.L.length:Int)),(65,.int .i64 t65)],[(0,.box [.nils,.nils,.nils,.nils,.bool false]),(1,.box [.own 2 1 0 row2x.length,.own 3 1 0 row3x.length,.own 4 3 0 c16.L.length,.nils,.bool c16.Over]),(2,.row 1 36 (row2x.map qk.c)),(3,.row 1 34 (row3x.map (wv 10 qj.c))),(4,.row 3 84 (c16.L.map zz.c))],5⟩) (Conv.keep [0,1,2,3,4] [5] [2,3,9,39,63,64,65] rfl rfl (qx rfl rfl (qx rfl rfl (qx rfl rfl (qx rfl rfl (qx rfl rfl (qx rfl rfl (qx rfl rfl qy))))))) rfl rfl) ?_ (by simp)
     refine aE qv (aG rfl (au (.ptr 1 0) (au (.ptr 1 0) (au (.own 2 1 0 row2x.length) (au (.rptr [.int .i64 x1163.To,.ro 12 (x1163.Map.map zx.c)]) (au (.int .i64 x1163.To) ?_))))))
     rcases wy gg261 with ⟨_,gg261⟩ | ⟨x1165,hx1165,gg261⟩
     ·subst gg261
      first | replace gg211:=wz gg211 | replace gg211:=aJ gg211
      subst gg211
      first | replace hR:=wz hR | replace hR:=aJ hR
      cases hR
     try dsimp only at gg261
     obtain ⟨hx11650,hx1165j,hx1165l,hx1165⟩:=ky hx1165
     refine aF (v':=.eptr 2 1 x1163.To.toNat 0) rfl rfl rfl (aK (c:=qk.c) (L:=row2x) (j:=x1163.To.toNat) rfl hx1165j hx1165l (by exact Nat.le_refl _)) rfl (aF (v':=.agg (qk.c x1165)) rfl rfl rfl (bf (c:=qk.c) (L:=row2x) (x:=x1165) rfl hx1165 rfl) rfl (au (.fn 45 [] [.rptr (zz.c x1163)]) ?_))
     rcases wy gg261 with ⟨_,gg261⟩ | ⟨c78,hc78,gg261⟩
     ·subst gg261
      first | replace gg211:=wz gg211 | replace gg211:=aJ gg211
      subst gg211
      first | replace hR:=wz hR | replace hR:=aJ hR
      cases hR
     try dsimp only at gg261
     try dsimp only at gg261
     refine aL (r:=.agg [.ro 10 (c78.L.map qj.c)]) rfl rfl rfl (f42_ok x1165 45 [] [.rptr (zz.c x1163)] (fun y0=>F45 y0 x1163) ⟨rfl,rfl⟩ (fun y0 _ hr=>f45_ok y0 x1163 _ hr) _ hc78) rfl rfl (bj (v':=.ptr 5 0) (zj:=[(0,.box [.nils,.nils,.nils,.nils,.bool false]),(1,.box [.own 2 1 0 row2x.length,.own 3 1 0 row3x.length,.own 4 3 0 c16.L.length,.nils,.bool c16.Over]),(2,.row 1 36 (row2x.map qk.c)),(3,.row 1 34 (row3x.map (wv 10 qj.c))),(4,.row 3 84 (c16.L.map zz.c)),(5,.box [.nils])]) (zk:=6) rfl rfl rfl rfl rfl rfl rfl (aV (zj:=[(0,.box [.nils,.nils,.nils,.nils,.bool false]),(1,.box [.own 2 1 0 row2x.length,.own 3 1 0 row3x.length,.own 4 3 0 c16.L.length,.nils,.bool c16.Over]),(2,.row 1 36 (row2x.map qk.c)),(3,.row 1 34 (row3x.map (wv 10 qj.c))),(4,.row 3 84 (c16.L.map zz.c)),(5,.box (qk.c c78))]) (zk:=6) rfl rfl rfl rfl rfl (aH rfl (ak (ak (aE qv (aG rfl (au (.ptr 1 0) (au (.ptr 1 1) (au (.own 3 1 0 row3x.length) (au (.rptr (zz.c x1163)) (au (.int .i64 x1163.From) ?_))))))))))))
     rcases wy gg261 with ⟨_,gg261⟩ | ⟨x1166,hx1166,gg261⟩
     ·subst gg261
      first | replace gg211:=wz gg211 | replace gg211:=aJ gg211
      subst gg211
      first | replace hR:=wz hR | replace hR:=aJ hR
      cases hR
     try dsimp only at gg261
     obtain ⟨hx11660,hx1166j,hx1166l,hx1166⟩:=ky hx1166
     refine aF (v':=.eptr 3 1 x1163.From.toNat 0) rfl rfl rfl (aK (c:=(wv 10 qj.c)) (L:=row3x) (j:=x1163.From.toNat) rfl hx1166j hx1166l (by exact Nat.le_refl _)) rfl (aF (v':=.ro 10 (x1166.map qj.c)) rfl rfl rfl (bf (c:=(wv 10 qj.c)) (L:=row3x) (x:=x1166) rfl hx1166 rfl) rfl (aF (v':=.int .i64 (x1166.length:Int)) rfl rfl rfl rfl (ww _ _) (aG rfl (aH rfl ?_))))
     refine bq (t:=86) rfl (by simp) (fun hln86_278=>?_)
     rw [List.length_map] at hln86_278
     generalize gi278:F19l1 x1163 x1166 1000 0 c78 = gh278 at gg261
     refine aY (fun k s=>∃ (t88:Int) (t10:qk),F19l1 x1163 x1166 k t88 t10 = gh278 ∧ s = ⟨[(2,.ptr 0 0),(3,.ptr 1 0),(9,.rptr (zz.c x1163)),(10,.ptr 5 0),(39,.int .i64 t39),(63,.own 4 3 0 c16.L.length),(64,.int .i64 (c16.L.length:Int)),(65,.int .i64 t65),(86,.ro 10 (x1166.map qj.c)),(87,.int .i64 (x1166.length:Int)),(88,.int .i64 t88)],[(0,.box [.nils,.nils,.nils,.nils,.bool false]),(1,.box [.own 2 1 0 row2x.length,.own 3 1 0 row3x.length,.own 4 3 0 c16.L.length,.nils,.bool c16.Over]),(2,.row 1 36 (row2x.map qk.c)),(3,.row 1 34 (row3x.map (wv 10 qj.c))),(4,.row 3 84 (c16.L.map zz.c)),(5,.box (qk.c t10))],6⟩) 1000 (by refine ⟨_,?_,0,c78,gi278,rfl⟩; exact Conv.keep [0,1,2,3,4,5] [] [2,3,9,10,39,63,64,65,86,87,88] rfl rfl (qx rfl rfl (qx rfl rfl (qx rfl rfl (qx rfl rfl (qx rfl rfl (qx rfl rfl (qx rfl rfl (qx rfl rfl (qx rfl rfl (qx rfl rfl (qx rfl rfl qy))))))))))) rfl rfl) ?_
     rintro k278 _ ⟨t88,t10,gg278,rfl⟩ gb278 gd278 gk278 ga278 gc278 gf278
     rcases k278 with _ | f278
     ·unfold F19l1 at gg278
      subst gg278
      first | replace gg261:=wz gg261 | replace gg261:=aJ gg261
      subst gg261
      first | replace gg211:=wz gg211 | replace gg211:=aJ gg211
      subst gg211
      first | replace hR:=wz hR | replace hR:=aJ hR
      cases hR
     unfold F19l1 at gg278; try dsimp only at gg278
     refine ah qv (ae (.bool (decide (t88 < (x1166.length:Int)))) (aa (ak ?_)))
     rcases qq (decide (t88 < (x1166.length:Int))) with hb279 | hb279
     ·rw [hb279]; try simp only [hb279,bb] at gg278
      refine aq rfl (aT ?_)
      refine aU (gc278 _ ?_)
      subst gg278
      replace gg261:=be gg261; try dsimp only at gg261
      refine aE qv (aG rfl (au (.ptr 1 0) (au (.ptr 1 0) (au (.own 2 1 0 row2x.length) (au (.rptr [.int .i64 x1163.To,.ro 12 (x1163.Map.map zx.c)]) (au (.int .i64 x1163.To) (au (.agg (qk.c t10)) (aF (v':=.eptr 2 1 x1163.To.toNat 0) rfl rfl rfl (aK (c:=qk.c) (L:=row2x) (j:=x1163.To.toNat) rfl hx1165j hx1165l (by exact Nat.le_refl _)) rfl (aV (zj:=[(0,.box [.nils,.nils,.nils,.nils,.bool false]),(1,.box [.own 2 1 0 row2x.length,.own 3 1 0 row3x.length,.own 4 3 0 c16.L.length,.nils,.bool c16.Over]),(2,.row 1 36 ((row2x.set x1163.To.toNat t10).map qk.c)),(3,.row 1 34 (row3x.map (wv 10 qj.c))),(4,.row 3 84 (c16.L.map zz.c)),(5,.box (qk.c t10))]) (zk:=6) rfl rfl (bw (c:=qk.c) (L:=row2x) (x:=x1165) (x':=t10) rfl hx1165 rfl rfl rfl rfl rfl) rfl rfl (aH rfl ?_))))))))))
      refine aB (am (hK263 _ ?_))
      refine az qv (ae (.int .i64 (IntKind.i64.wrap (t65 + 1))) (af rfl (aa ?_)))
      refine aB (am ?_)
      refine ga261 _ f261 _ (Nat.lt_succ_self _) ?_ ⟨(IntKind.i64.wrap (t65 + 1)),(row2x.set x1163.To.toNat t10),gg261,rfl⟩
      exact Conv.keep [0,1,2,3,4] [] [2,3,39,63,64,65] rfl rfl (qx rfl rfl (qx rfl rfl (qx rfl rfl (qx rfl rfl (qx rfl rfl (qx rfl rfl qy)))))) (kx rfl rfl (kx rfl (bN (qz (br rfl (by simp)) (qz rfl (qz rfl (qz rfl (qz rfl qw)))))) (kx rfl rfl (kx rfl rfl (kx rfl rfl cE))))) rfl
     ·rw [hb279]; try simp only [hb279,bb] at gg278
      refine ap rfl (aA (ak ?_))
      refine aI (fun _ hK280=>?_)
      refine ah qv ?_
      rcases wy gg278 with ⟨_,gg278⟩ | ⟨x1180,hx1180,gg278⟩
      ·subst gg278
       first | replace gg261:=wz gg261 | replace gg261:=aJ gg261
       subst gg261
       first | replace gg211:=wz gg211 | replace gg211:=aJ gg211
       subst gg211
       first | replace hR:=wz hR | replace hR:=aJ hR
       cases hR
      try dsimp only at gg278
      obtain ⟨hx11800,hx1180j,hx1180l,hx1180⟩:=ky hx1180
      refine aZ (c:=qj.c) (x:=x1180) rfl rfl rfl hx11800 hx1180 (ae (.agg (qj.c x1180)) (aw (v':=.ptr 6 0) (zj:=[(0,.box [.nils,.nils,.nils,.nils,.bool false]),(1,.box [.own 2 1 0 row2x.length,.own 3 1 0 row3x.length,.own 4 3 0 c16.L.length,.nils,.bool c16.Over]),(2,.row 1 36 (row2x.map qk.c)),(3,.row 1 34 (row3x.map (wv 10 qj.c))),(4,.row 3 84 (c16.L.map zz.c)),(5,.box (qk.c t10)),(6,.box [.int .u32 0,.int .i64 0,.int .i64 0,.int .i64 0,.int .i64 0,.int .i64 0,.int .u32 0,.bool false,.int .i64 0,.nils])]) (zk:=7) rfl rfl rfl rfl rfl rfl rfl (ay (zj:=[(0,.box [.nils,.nils,.nils,.nils,.bool false]),(1,.box [.own 2 1 0 row2x.length,.own 3 1 0 row3x.length,.own 4 3 0 c16.L.length,.nils,.bool c16.Over]),(2,.row 1 36 (row2x.map qk.c)),(3,.row 1 34 (row3x.map (wv 10 qj.c))),(4,.row 3 84 (c16.L.map zz.c)),(5,.box (qk.c t10)),(6,.box (qj.c x1180))]) (zk:=7) rfl rfl rfl rfl rfl (aa (ah qv (ae (.agg (zz.c x1163)) (ae (.agg (qj.c x1180)) ?_)))))))
      rcases wy gg278 with ⟨_,gg278⟩ | ⟨c95,hc95,gg278⟩
      ·subst gg278
       first | replace gg261:=wz gg261 | replace gg261:=aJ gg261
       subst gg261
       first | replace gg211:=wz gg211 | replace gg211:=aJ gg211
       subst gg211
       first | replace hR:=wz hR | replace hR:=aJ hR
       cases hR
      try dsimp only at gg278
      refine av (r:=.tup [.agg (qj.c c95.1),.bool c95.2]) rfl rfl rfl (f47_ok x1163 x1180 _ hc95) rfl rfl (af rfl (ae (.agg (qj.c c95.1)) (ae (.bool c95.2) (aw (v':=.ptr 7 0) (zj:=[(0,.box [.nils,.nils,.nils,.nils,.bool false]),(1,.box [.own 2 1 0 row2x.length,.own 3 1 0 row3x.length,.own 4 3 0 c16.L.length,.nils,.bool c16.Over]),(2,.row 1 36 (row2x.map qk.c)),(3,.row 1 34 (row3x.map (wv 10 qj.c))),(4,.row 3 84 (c16.L.map zz.c)),(5,.box (qk.c t10)),(6,.box (qj.c x1180)),(7,.box [.int .u32 0,.int .i64 0,.int .i64 0,.int .i64 0,.int .i64 0,.int .i64 0,.int .u32 0,.bool false,.int .i64 0,.nils])]) (zk:=8) rfl rfl rfl rfl rfl rfl rfl (ay (zj:=[(0,.box [.nils,.nils,.nils,.nils,.bool false]),(1,.box [.own 2 1 0 row2x.length,.own 3 1 0 row3x.length,.own 4 3 0 c16.L.length,.nils,.bool c16.Over]),(2,.row 1 36 (row2x.map qk.c)),(3,.row 1 34 (row3x.map (wv 10 qj.c))),(4,.row 3 84 (c16.L.map zz.c)),(5,.box (qk.c t10)),(6,.box (qj.c x1180)),(7,.box (qj.c c95.1))]) (zk:=8) rfl rfl rfl rfl rfl (af rfl (aa (ah qv (af rfl (aa ?_))))))))))
      rcases qq (c95.2) with hb282 | hb282
      ·rw [hb282]; try simp only [hb282,bb] at gg278
       refine aq rfl (aA ?_)
       refine aB (am (hK280 _ ?_))
       refine az qv (ae (.int .i64 (IntKind.i64.wrap (t88 + 1))) (af rfl (aa ?_)))
       refine aB (am ?_)
       refine ga278 _ f278 _ (Nat.lt_succ_self _) ?_ ⟨(IntKind.i64.wrap (t88 + 1)),t10,gg278,rfl⟩
       exact Conv.keep [0,1,2,3,4,5] [] [2,3,9,10,39,63,64,65,86,87,88] rfl rfl (qx rfl rfl (qx rfl rfl (qx rfl rfl (qx rfl rfl (qx rfl rfl (qx rfl rfl (qx rfl rfl (qx rfl rfl (qx rfl rfl (qx rfl rfl (qx rfl rfl qy))))))))))) rfl rfl
      ·rw [hb282]; try simp only [hb282,bb] at gg278
       refine ap rfl (az qv (ae (.agg (qk.c t10)) (ae (.agg (qj.c c95.1)) ?_)))
       rcases wy gg278 with ⟨_,gg278⟩ | ⟨c102,hc102,gg278⟩
       ·subst gg278
        first | replace gg261:=wz gg261 | replace gg261:=aJ gg261
        subst gg261
        first | replace gg211:=wz gg211 | replace gg211:=aJ gg211
        subst gg211
        first | replace hR:=wz hR | replace hR:=aJ hR
        cases hR
       try dsimp only at gg278
       refine av (r:=.tup [.agg [.ro 10 (c102.1.L.map qj.c)],.int .i64 c102.2]) rfl rfl rfl (f48_ok t10 c95.1 _ hc102) rfl rfl (af rfl (ae (.agg [.ro 10 (c102.1.L.map qj.c)]) (ae (.int .i64 c102.2) (ay (zj:=[(0,.box [.nils,.nils,.nils,.nils,.bool false]),(1,.box [.own 2 1 0 row2x.length,.own 3 1 0 row3x.length,.own 4 3 0 c16.L.length,.nils,.bool c16.Over]),(2,.row 1 36 (row2x.map qk.c)),(3,.row 1 34 (row3x.map (wv 10 qj.c))),(4,.row 3 84 (c16.L.map zz.c)),(5,.box (qk.c c102.1)),(6,.box (qj.c x1180)),(7,.box (qj.c c95.1))]) (zk:=8) rfl rfl rfl rfl rfl (aa ?_)))))
       refine aB (am (hK280 _ ?_))
       refine az qv (ae (.int .i64 (IntKind.i64.wrap (t88 + 1))) (af rfl (aa ?_)))
       refine aB (am ?_)
       refine ga278 _ f278 _ (Nat.lt_succ_self _) ?_ ⟨(IntKind.i64.wrap (t88 + 1)),c102.1,gg278,rfl⟩
       exact Conv.keep [0,1,2,3,4,5] [] [2,3,9,10,39,63,64,65,86,87,88] rfl rfl (qx rfl rfl (qx rfl rfl (qx rfl rfl (qx rfl rfl (qx rfl rfl (qx rfl rfl (qx rfl rfl (qx rfl rfl (qx rfl rfl (qx rfl rfl (qx rfl rfl qy))))))))))) rfl rfl
   ·rw [hb251]; try simp only [hb251,bb] at gg250
    refine ap rfl (aA (ak ?_))
    refine aI (fun _ hK283=>?_)
    refine ah qv (af rfl ?_)
    rcases wy gg250 with ⟨_,gg250⟩ | ⟨x1183,hx1183,gg250⟩
    ·subst gg250
     first | replace gg211:=wz gg211 | replace gg211:=aJ gg211
     subst gg211
     first | replace hR:=wz hR | replace hR:=aJ hR
     cases hR
    try dsimp only at gg250
    obtain ⟨hx11830,hx1183j,hx1183l,hx1183⟩:=ky hx1183
    refine ar (v':=.eptr 2 1 t46.toNat 0) rfl rfl rfl (aK (c:=qk.c) (L:=row2) (j:=t46.toNat) rfl hx1183j hx1183l (by exact Nat.le_refl _)) rfl (ar (v':=.agg (qk.c x1183)) rfl rfl rfl (bf (c:=qk.c) (L:=row2) (x:=x1183) rfl hx1183 rfl) rfl (aw (v':=.ptr 5 0) (zj:=[(0,.box [.nils,.nils,.nils,.nils,.bool false]),(1,.box [.own 2 1 0 row2.length,.own 3 1 0 row3x.length,.own 4 3 0 c16.L.length,.nils,.bool c16.Over]),(2,.row 1 36 (row2.map qk.c)),(3,.row 1 34 (row3x.map (wv 10 qj.c))),(4,.row 3 84 (c16.L.map zz.c)),(5,.box [.nils])]) (zk:=6) rfl rfl rfl rfl rfl rfl rfl (af rfl (ay (zj:=[(0,.box [.nils,.nils,.nils,.nils,.bool false]),(1,.box [.own 2 1 0 row2.length,.own 3 1 0 row3x.length,.own 4 3 0 c16.L.length,.nils,.bool c16.Over]),(2,.row 1 36 (row2.map qk.c)),(3,.row 1 34 (row3x.map (wv 10 qj.c))),(4,.row 3 84 (c16.L.map zz.c)),(5,.box (qk.c x1183))]) (zk:=6) rfl rfl rfl rfl rfl (aa (aE qv (aG rfl (au (.ptr 1 0) (au (.ptr 1 1) (au (.own 3 1 0 row3x.length) (aG rfl (au (.agg (qk.c x1183)) ?_))))))))))))
    rcases wy gg250 with ⟨_,gg250⟩ | ⟨c57,hc57,gg250⟩
    ·subst gg250
     first | replace gg211:=wz gg211 | replace gg211:=aJ gg211
     subst gg211
     first | replace hR:=wz hR | replace hR:=aJ hR
     cases hR
    try dsimp only at gg250
    try dsimp only at gg250
    refine aL (r:=.ro 10 (c57.map qj.c)) rfl rfl rfl (f44_ok x1183 _ hc57) rfl rfl ?_
    rcases wy gg250 with ⟨_,gg250⟩ | ⟨x1184,hx1184,gg250⟩
    ·subst gg250
     first | replace gg211:=wz gg211 | replace gg211:=aJ gg211
     subst gg211
     first | replace hR:=wz hR | replace hR:=aJ hR
     cases hR
    try dsimp only at gg250
    obtain ⟨hx11840,hx1184j,hx1184l,hx1184⟩:=ky hx1184
    refine aF (v':=.eptr 3 1 t46.toNat 0) rfl rfl rfl (aK (c:=(wv 10 qj.c)) (L:=row3x) (j:=t46.toNat) rfl hx1184j hx1184l (by exact Nat.le_refl _)) rfl (aV (zj:=[(0,.box [.nils,.nils,.nils,.nils,.bool false]),(1,.box [.own 2 1 0 row2.length,.own 3 1 0 row3x.length,.own 4 3 0 c16.L.length,.nils,.bool c16.Over]),(2,.row 1 36 (row2.map qk.c)),(3,.row 1 34 ((row3x.set t46.toNat c57).map (wv 10 qj.c))),(4,.row 3 84 (c16.L.map zz.c)),(5,.box (qk.c x1183))]) (zk:=6) rfl rfl (bw (c:=(wv 10 qj.c)) (L:=row3x) (x:=x1184) (x':=c57) rfl hx1184 rfl rfl rfl rfl rfl) rfl rfl (aH rfl ?_))
    refine aB (am (hK283 _ ?_))
    refine az qv (ae (.int .i64 (IntKind.i64.wrap (t46 + 1))) (af rfl (aa ?_)))
    refine aB (am ?_)
    refine ga250 _ f250 _ (Nat.lt_succ_self _) ?_ ⟨(IntKind.i64.wrap (t46 + 1)),(row3x.set t46.toNat c57),gg250,rfl⟩
    exact Conv.keep [0,1,2,3,4] [] [2,3,39,44,45,46] rfl rfl (qx rfl rfl (qx rfl rfl (qx rfl rfl (qx rfl rfl (qx rfl rfl (qx rfl rfl qy)))))) (kx rfl rfl (kx rfl (bN (qz rfl (qz (br rfl (by simp)) (qz rfl (qz rfl (qz rfl qw)))))) (kx rfl rfl (kx rfl rfl (kx rfl rfl cE))))) rfl
 ·rw [hb145]; try simp only [hb145,bb] at gg144
  refine ap rfl (aA (ak ?_))
  refine aI (fun _ hK286=>?_)
  refine ah qv (af rfl ?_)
  rcases wy gg144 with ⟨_,gg144⟩ | ⟨x1186,hx1186,gg144⟩
  ·subst gg144
   first | replace hR:=wz hR | replace hR:=aJ hR
   cases hR
  try dsimp only at gg144
  obtain ⟨hx11860,hx1186j,hx1186l,hx1186⟩:=ky hx1186
  refine ar (v':=.eptr 2 1 t25.toNat 0) rfl rfl rfl (aK (c:=qk.c) (L:=t23) (j:=t25.toNat) rfl hx1186j hx1186l (by exact Nat.le_refl _)) rfl (ar (v':=.agg (qk.c x1186)) rfl rfl rfl (bf (c:=qk.c) (L:=t23) (x:=x1186) rfl hx1186 rfl) rfl (aw (v':=.ptr 5 0) (zj:=[(0,.box [.nils,.nils,.nils,.nils,.bool false]),(1,.box [.own 2 1 0 t23.length,.own 3 1 0 c16.Sel.length,.own 4 3 0 c16.L.length,.nils,.bool c16.Over]),(2,.row 1 36 (t23.map qk.c)),(3,.row 1 34 (c16.Sel.map (wv 10 qj.c))),(4,.row 3 84 (c16.L.map zz.c)),(5,.box [.nils])]) (zk:=6) rfl rfl rfl rfl rfl rfl rfl (af rfl (ay (zj:=[(0,.box [.nils,.nils,.nils,.nils,.bool false]),(1,.box [.own 2 1 0 t23.length,.own 3 1 0 c16.Sel.length,.own 4 3 0 c16.L.length,.nils,.bool c16.Over]),(2,.row 1 36 (t23.map qk.c)),(3,.row 1 34 (c16.Sel.map (wv 10 qj.c))),(4,.row 3 84 (c16.L.map zz.c)),(5,.box (qk.c x1186))]) (zk:=6) rfl rfl rfl rfl rfl (aa (aE qv (aG rfl (au (.ptr 1 0) (au (.ptr 1 0) (au (.own 2 1 0 t23.length) (aG rfl (au (.agg (qk.c x1186)) ?_))))))))))))
  rcases wy gg144 with ⟨_,gg144⟩ | ⟨c36,hc36,gg144⟩
  ·subst gg144
   first | replace hR:=wz hR | replace hR:=aJ hR
   cases hR
  try dsimp only at gg144
  try dsimp only at gg144
  refine aL (r:=.agg [.ro 10 (c36.L.map qj.c)]) rfl rfl rfl (f42_ok x1186 43 [] [] (fun y0=>F43 y0) ⟨rfl,rfl⟩ (fun y0 _ hr=>f43_ok y0 _ hr) _ hc36) rfl rfl (aF (v':=.eptr 2 1 t25.toNat 0) rfl rfl rfl (aK (c:=qk.c) (L:=t23) (j:=t25.toNat) rfl hx1186j hx1186l (by exact Nat.le_refl _)) rfl (aV (zj:=[(0,.box [.nils,.nils,.nils,.nils,.bool false]),(1,.box [.own 2 1 0 t23.length,.own 3 1 0 c16.Sel.length,.own 4 3 0 c16.L.length,.nils,.bool c16.Over]),(2,.row 1 36 ((t23.set t25.toNat c36).map qk.c)),(3,.row 1 34 (c16.Sel.map (wv 10 qj.c))),(4,.row 3 84 (c16.L.map zz.c)),(5,.box (qk.c x1186))]) (zk:=6) rfl rfl (bw (c:=qk.c) (L:=t23) (x:=x1186) (x':=c36) rfl hx1186 rfl rfl rfl rfl rfl) rfl rfl (aH rfl ?_)))
  refine aB (am (hK286 _ ?_))
  refine az qv (ae (.int .i64 (IntKind.i64.wrap (t25 + 1))) (af rfl (aa ?_)))
  refine aB (am ?_)
  refine ga144 _ f144 _ (Nat.lt_succ_self _) ?_ ⟨(IntKind.i64.wrap (t25 + 1)),(t23.set t25.toNat c36),gg144,rfl⟩
  exact Conv.keep [0,1,2,3,4] [] [2,3,23,24,25] rfl rfl (qx rfl rfl (qx rfl rfl (qx rfl (br rfl (by simp)) (qx rfl rfl (qx rfl rfl qy))))) (kx rfl rfl (kx rfl (bN (qz (br rfl (by simp)) (qz rfl (qz rfl (qz rfl (qz rfl qw)))))) (kx rfl rfl (kx rfl rfl (kx rfl rfl cE))))) rfl
theorem f54_ok (s10:List qk) (s21:List qk) (geq2:FuncId) (geq2f geq2c:List PVal) (heq2:qk → qk → Bool) (geq2k:PVal.closed.go geq2f = true ∧ PVal.closed.go geq2c = true) (geq2o : ∀ (y0:qk) (y1:qk) (R:Bool),heq2 y0 y1 = R → FnOk Tryz.prog geq2 (geq2f ++ [.agg (qk.c y0),.agg (qk.c y1)] ++ geq2c) [] 0 (.bool R) [] 0) (R:Bool) (hR:F54 s10 s21 heq2 = some R):FnOk Tryz.prog 54 [.ro 1 (s10.map qk.c),.ro 1 (s21.map qk.c),.fn geq2 geq2f geq2c] [] 0 (.bool R) [] 0:=by
 refine FnOk.wk i54 rfl rfl ?_
 unfold F54 at hR
 try dsimp only at hR
 change WK _ _ _ [ac54] _ ⟨[(0,.ro 1 (s10.map qk.c)),(1,.ro 1 (s21.map qk.c)),(2,.fn geq2 geq2f geq2c)],[],0⟩
 unfold ac54
 refine ah qv (af rfl (aa (ak (ah qv (af rfl (ar (v':=.int .i64 (s10.length:Int)) rfl rfl rfl rfl (ww _ _) (af rfl (ar (v':=.int .i64 (s21.length:Int)) rfl rfl rfl rfl (ww _ _) (ae (.bool (!decide ((s10.length:Int) = (s21.length:Int)))) (aa ?_))))))))))
 rcases qq (decide ((s10.length:Int) = (s21.length:Int))) with hb1 | hb1
 ·rw [hb1]; first | replace hR:=kw hb1 hR | (try simp only [hb1,bb] at hR)
  refine ap rfl (ah qv (af rfl (aa (aj ?_))))
  obtain rfl:=Option.some.inj hR
  exact ai [] (.inr rfl) rfl rfl rfl rfl
 ·rw [hb1]; first | replace hR:=kz hb1 hR | (try simp only [hb1,bb] at hR)
  refine aq rfl (aA (ak (ah qv (af rfl (ar (v':=.int .i64 (s10.length:Int)) rfl rfl rfl rfl (ww _ _) (af rfl (aa ?_)))))))
  refine bq (t:=0) rfl (by simp) (fun ge2=>?_)
  rw [List.length_map] at ge2
  generalize gi2:F54l1 s21 heq2 0 s10 = gh2 at hR
  refine aY (fun k s=>∃ (i17:Nat),i17 ≤ s10.length ∧ k = s10.length - i17 ∧ F54l1 s21 heq2 i17 (s10.drop i17) = gh2 ∧ s = ⟨[(1,.ro 1 (s21.map qk.c)),(2,.fn geq2 geq2f geq2c),(15,.ro 1 (s10.map qk.c)),(16,.int .i64 (s10.length:Int)),(17,.int .i64 (i17:Int))],[],0⟩) s10.length (by refine ⟨_,?_,0,(by omega),rfl,gi2,rfl⟩; exact Conv.keep [] [] [1,2,15,16,17] rfl rfl (qx rfl rfl (qx rfl (aM geq2k) (qx rfl rfl (qx rfl rfl (qx rfl rfl qy))))) rfl rfl) ?_
  rintro _ _ ⟨i17,gj2,rfl,gg2,rfl⟩ gb2 gd2 gk2 ga2 gc2 gf2
  refine ah qv (ae (.bool (decide ((i17:Int) < (s10.length:Int)))) (aa (ak ?_)))
  rcases qq (decide ((i17:Int) < (s10.length:Int))) with hb3 | hb3
  ·rw [hb3]
   rw [bc hb3,F54l1] at gg2
   refine aq rfl (aT ?_)
   refine aU (gc2 _ ?_)
   subst gg2
   replace hR:=cf hR; try dsimp only at hR
   refine ah qv (af rfl (aa (aj ?_)))
   obtain rfl:=Option.some.inj hR
   exact ai [] (.inr rfl) rfl rfl rfl rfl
  ·rw [hb3]
   obtain ⟨x17,hx2,hd2,hlt2⟩:=aR hb3
   rw [hd2,F54l1] at gg2
   refine ap rfl (aA (ak ?_))
   refine aI (fun _ hK4=>?_)
   refine ah qv (af rfl (aZ (c:=qk.c) (x:=x17) rfl rfl rfl (Int.natCast_nonneg _) hx2 (ae (.agg (qk.c x17)) (aw (v':=.ptr 0 0) (zj:=[(0,.box [.nils])]) (zk:=1) rfl rfl rfl rfl rfl rfl rfl (af rfl (ay (zj:=[(0,.box (qk.c x17))]) (zk:=1) rfl rfl rfl rfl rfl (aa (ah qv (af rfl (af rfl ?_))))))))))
   rcases wy gg2 with ⟨_,gg2⟩ | ⟨x904,hx904,gg2⟩
   ·subst gg2
    first | replace hR:=wz hR | replace hR:=aJ hR
    cases hR
   try dsimp only at gg2
   obtain ⟨hx9040,hx904j,hx904l,hx904⟩:=ky hx904
   refine aZ (c:=qk.c) (x:=x904) rfl rfl rfl hx9040 hx904 (ae (.agg (qk.c x904)) (aw (v':=.ptr 1 0) (zj:=[(0,.box (qk.c x17)),(1,.box [.nils])]) (zk:=2) rfl rfl rfl rfl rfl rfl rfl (ay (zj:=[(0,.box (qk.c x17)),(1,.box (qk.c x904))]) (zk:=2) rfl rfl rfl rfl rfl (aa (ah qv (af rfl (ae (.agg (qk.c x17)) (ae (.agg (qk.c x904)) ?_))))))))
   generalize hc29:heq2 x17 x904 = c29 at gg2
   try dsimp only at gg2
   refine cd (r:=.bool c29) rfl rfl rfl (geq2o x17 x904 _ hc29) (closed3 geq2k.1 rfl geq2k.2) rfl (ae (.bool (!c29)) (aa ?_))
   rcases qq (c29) with hb6 | hb6
   ·rw [hb6]; try simp only [hb6,bb] at gg2
    refine ap rfl (ah qv (af rfl (aa (aj (aS ?_)))))
    refine aS (gf2 _ _ ?_)
    subst gg2
    first | replace hR:=dC hR | replace hR:=cf hR | replace hR:=be hR
    try dsimp only at hR
    obtain rfl:=Option.some.inj hR
    exact ai [] (.inr rfl) rfl rfl rfl rfl
   ·rw [hb6]; try simp only [hb6,bb] at gg2
    refine aq rfl (aA ?_)
    refine aB (am (hK4 _ ?_))
    refine az qv (ar (v':=.int .i64 ((i17 + 1:Nat):Int)) rfl rfl rfl rfl (congrArg (PVal.int .i64) (aO hlt2 ge2)) (af rfl (aa ?_)))
    refine aB (am ?_)
    refine ga2 _ (s10.length - (i17 + 1)) _ (by omega) ?_ ⟨i17 + 1,(by omega),rfl,gg2,rfl⟩
    exact Conv.keep [] [] [1,2,15,16,17] rfl rfl (qx rfl rfl (qx rfl (aM geq2k) (qx rfl rfl (qx rfl rfl (qx rfl rfl qy))))) rfl rfl
theorem f55_ok (x0:qk) (y1:qk) (R:Bool) (hR:F55 x0 y1 = R):FnOk Tryz.prog 55 [.agg (qk.c x0),.agg (qk.c y1)] [] 0 (.bool R) [] 0:=by
 refine FnOk.wk i55 rfl rfl ?_
 unfold F55 at hR
 change WK _ _ _ [ac55] _ ⟨[(0,.agg (qk.c x0)),(1,.agg (qk.c y1))],[],0⟩
 unfold ac55
 refine ah qv (aw (v':=.ptr 0 0) (zj:=[(0,.box (qk.c x0))]) (zk:=1) rfl rfl rfl rfl rfl rfl rfl (aw (v':=.ptr 1 0) (zj:=[(0,.box (qk.c x0)),(1,.box (qk.c y1))]) (zk:=2) rfl rfl rfl rfl rfl rfl rfl (af rfl (aa (ah qv (ae (.ptr 0 0) (ae (.ro 10 (x0.L.map qj.c)) (ae (.ptr 1 0) (ae (.ro 10 (y1.L.map qj.c)) ?_)))))))))
 generalize hc9:F56 x0.L y1.L (fun y0 y1=>F57 y0 y1) = c9 at hR
 try dsimp only at hR
 refine av (r:=.bool c9) rfl rfl rfl (f56_ok x0.L y1.L 57 [] [] (fun y0 y1=>F57 y0 y1) ⟨rfl,rfl⟩ (fun y0 y1 _ hr=>f57_ok y0 y1 _ hr) _ hc9) rfl rfl (af rfl (aa (aj ?_)))
 subst hR
 exact ai [] (.inr rfl) rfl rfl rfl rfl
theorem f58_ok (s10:List (List qj)) (s21:List (List qj)) (geq2:FuncId) (geq2f geq2c:List PVal) (heq2:(List qj) → (List qj) → Bool) (geq2k:PVal.closed.go geq2f = true ∧ PVal.closed.go geq2c = true) (geq2o : ∀ (y0:List qj) (y1:List qj) (R:Bool),heq2 y0 y1 = R → FnOk Tryz.prog geq2 (geq2f ++ [.ro 10 (y0.map qj.c),.ro 10 (y1.map qj.c)] ++ geq2c) [] 0 (.bool R) [] 0) (R:Bool) (hR:F58 s10 s21 heq2 = some R):FnOk Tryz.prog 58 [.ro 1 (s10.map (wv 10 qj.c)),.ro 1 (s21.map (wv 10 qj.c)),.fn geq2 geq2f geq2c] [] 0 (.bool R) [] 0:=by
 refine FnOk.wk i58 rfl rfl ?_
 unfold F58 at hR
 try dsimp only at hR
 change WK _ _ _ [ac58] _ ⟨[(0,.ro 1 (s10.map (wv 10 qj.c))),(1,.ro 1 (s21.map (wv 10 qj.c))),(2,.fn geq2 geq2f geq2c)],[],0⟩
 unfold ac58
 refine ah qv (af rfl (aa (ak (ah qv (af rfl (ar (v':=.int .i64 (s10.length:Int)) rfl rfl rfl rfl (ww _ _) (af rfl (ar (v':=.int .i64 (s21.length:Int)) rfl rfl rfl rfl (ww _ _) (ae (.bool (!decide ((s10.length:Int) = (s21.length:Int)))) (aa ?_))))))))))
 rcases qq (decide ((s10.length:Int) = (s21.length:Int))) with hb1 | hb1
 ·rw [hb1]; first | replace hR:=kw hb1 hR | (try simp only [hb1,bb] at hR)
  refine ap rfl (ah qv (af rfl (aa (aj ?_))))
  obtain rfl:=Option.some.inj hR
  exact ai [] (.inr rfl) rfl rfl rfl rfl
 ·rw [hb1]; first | replace hR:=kz hb1 hR | (try simp only [hb1,bb] at hR)
  refine aq rfl (aA (ak (ah qv (af rfl (ar (v':=.int .i64 (s10.length:Int)) rfl rfl rfl rfl (ww _ _) (af rfl (aa ?_)))))))
  refine bq (t:=0) rfl (by simp) (fun ge2=>?_)
  rw [List.length_map] at ge2
  generalize gi2:F58l1 s21 heq2 0 s10 = gh2 at hR
  refine aY (fun k s=>∃ (i17:Nat),i17 ≤ s10.length ∧ k = s10.length - i17 ∧ F58l1 s21 heq2 i17 (s10.drop i17) = gh2 ∧ s = ⟨[(1,.ro 1 (s21.map (wv 10 qj.c))),(2,.fn geq2 geq2f geq2c),(15,.ro 1 (s10.map (wv 10 qj.c))),(16,.int .i64 (s10.length:Int)),(17,.int .i64 (i17:Int))],[],0⟩) s10.length (by refine ⟨_,?_,0,(by omega),rfl,gi2,rfl⟩; exact Conv.keep [] [] [1,2,15,16,17] rfl rfl (qx rfl rfl (qx rfl (aM geq2k) (qx rfl rfl (qx rfl rfl (qx rfl rfl qy))))) rfl rfl) ?_
  rintro _ _ ⟨i17,gj2,rfl,gg2,rfl⟩ gb2 gd2 gk2 ga2 gc2 gf2
  refine ah qv (ae (.bool (decide ((i17:Int) < (s10.length:Int)))) (aa (ak ?_)))
  rcases qq (decide ((i17:Int) < (s10.length:Int))) with hb3 | hb3
  ·rw [hb3]
   rw [bc hb3,F58l1] at gg2
   refine aq rfl (aT ?_)
   refine aU (gc2 _ ?_)
   subst gg2
   replace hR:=cf hR; try dsimp only at hR
   refine ah qv (af rfl (aa (aj ?_)))
   obtain rfl:=Option.some.inj hR
   exact ai [] (.inr rfl) rfl rfl rfl rfl
  ·rw [hb3]
   obtain ⟨x17,hx2,hd2,hlt2⟩:=aR hb3
   rw [hd2,F58l1] at gg2
   refine ap rfl (aA (ak ?_))
   refine aI (fun _ hK4=>?_)
   refine ah qv (af rfl (aZ (c:=(wv 10 qj.c)) (x:=x17) rfl rfl rfl (Int.natCast_nonneg _) hx2 (ae (.ro 10 (x17.map qj.c)) (af rfl (af rfl (aa (ah qv (af rfl (af rfl ?_)))))))))
   rcases wy gg2 with ⟨_,gg2⟩ | ⟨x904,hx904,gg2⟩
   ·subst gg2
    first | replace hR:=wz hR | replace hR:=aJ hR
    cases hR
   try dsimp only at gg2
   obtain ⟨hx9040,hx904j,hx904l,hx904⟩:=ky hx904
   refine aZ (c:=(wv 10 qj.c)) (x:=x904) rfl rfl rfl hx9040 hx904 (ae (.ro 10 (x904.map qj.c)) (af rfl (aa (ah qv (af rfl (af rfl (af rfl ?_)))))))
   generalize hc29:heq2 x17 x904 = c29 at gg2
   try dsimp only at gg2
   refine cd (r:=.bool c29) rfl rfl rfl (geq2o x17 x904 _ hc29) (closed3 geq2k.1 rfl geq2k.2) rfl (ae (.bool (!c29)) (aa ?_))
   rcases qq (c29) with hb6 | hb6
   ·rw [hb6]; try simp only [hb6,bb] at gg2
    refine ap rfl (ah qv (af rfl (aa (aj (aS ?_)))))
    refine aS (gf2 _ _ ?_)
    subst gg2
    first | replace hR:=dC hR | replace hR:=cf hR | replace hR:=be hR
    try dsimp only at hR
    obtain rfl:=Option.some.inj hR
    exact ai [] (.inr rfl) rfl rfl rfl rfl
   ·rw [hb6]; try simp only [hb6,bb] at gg2
    refine aq rfl (aA ?_)
    refine aB (am (hK4 _ ?_))
    refine az qv (ar (v':=.int .i64 ((i17 + 1:Nat):Int)) rfl rfl rfl rfl (congrArg (PVal.int .i64) (aO hlt2 ge2)) (af rfl (aa ?_)))
    refine aB (am ?_)
    refine ga2 _ (s10.length - (i17 + 1)) _ (by omega) ?_ ⟨i17 + 1,(by omega),rfl,gg2,rfl⟩
    exact Conv.keep [] [] [1,2,15,16,17] rfl rfl (qx rfl rfl (qx rfl (aM geq2k) (qx rfl rfl (qx rfl rfl (qx rfl rfl qy))))) rfl rfl
theorem f59_ok (x0:List qj) (y1:List qj) (R:Bool) (hR:F59 x0 y1 = R):FnOk Tryz.prog 59 [.ro 10 (x0.map qj.c),.ro 10 (y1.map qj.c)] [] 0 (.bool R) [] 0:=by
 refine FnOk.wk i59 rfl rfl ?_
 unfold F59 at hR
 change WK _ _ _ [ac59] _ ⟨[(0,.ro 10 (x0.map qj.c)),(1,.ro 10 (y1.map qj.c))],[],0⟩
 unfold ac59
 refine ah qv (af rfl (aa (ah qv (af rfl (af rfl ?_)))))
 generalize hc7:F56 x0 y1 (fun y0 y1=>F57 y0 y1) = c7 at hR
 try dsimp only at hR
 refine av (r:=.bool c7) rfl rfl rfl (f56_ok x0 y1 57 [] [] (fun y0 y1=>F57 y0 y1) ⟨rfl,rfl⟩ (fun y0 y1 _ hr=>f57_ok y0 y1 _ hr) _ hc7) rfl rfl (af rfl (aa (aj ?_)))
 subst hR
 exact ai [] (.inr rfl) rfl rfl rfl rfl
theorem f60_ok (s10:List zz) (s21:List zz) (geq2:FuncId) (geq2f geq2c:List PVal) (heq2:zz → zz → Bool) (geq2k:PVal.closed.go geq2f = true ∧ PVal.closed.go geq2c = true) (geq2o : ∀ (y0:zz) (y1:zz) (R:Bool),heq2 y0 y1 = R → FnOk Tryz.prog geq2 (geq2f ++ [.agg (zz.c y0),.agg (zz.c y1)] ++ geq2c) [] 0 (.bool R) [] 0) (R:Bool) (hR:F60 s10 s21 heq2 = some R):FnOk Tryz.prog 60 [.ro 3 (s10.map zz.c),.ro 3 (s21.map zz.c),.fn geq2 geq2f geq2c] [] 0 (.bool R) [] 0:=by
 refine FnOk.wk i60 rfl rfl ?_
 unfold F60 at hR
 try dsimp only at hR
 change WK _ _ _ [ac60] _ ⟨[(0,.ro 3 (s10.map zz.c)),(1,.ro 3 (s21.map zz.c)),(2,.fn geq2 geq2f geq2c)],[],0⟩
 unfold ac60
 refine ah qv (af rfl (aa (ak (ah qv (af rfl (ar (v':=.int .i64 (s10.length:Int)) rfl rfl rfl rfl (ww _ _) (af rfl (ar (v':=.int .i64 (s21.length:Int)) rfl rfl rfl rfl (ww _ _) (ae (.bool (!decide ((s10.length:Int) = (s21.length:Int)))) (aa ?_))))))))))
 rcases qq (decide ((s10.length:Int) = (s21.length:Int))) with hb1 | hb1
 ·rw [hb1]; first | replace hR:=kw hb1 hR | (try simp only [hb1,bb] at hR)
  refine ap rfl (ah qv (af rfl (aa (aj ?_))))
  obtain rfl:=Option.some.inj hR
  exact ai [] (.inr rfl) rfl rfl rfl rfl
 ·rw [hb1]; first | replace hR:=kz hb1 hR | (try simp only [hb1,bb] at hR)
  refine aq rfl (aA (ak (ah qv (af rfl (ar (v':=.int .i64 (s10.length:Int)) rfl rfl rfl rfl (ww _ _) (af rfl (aa ?_)))))))
  refine bq (t:=0) rfl (by simp) (fun ge2=>?_)
  rw [List.length_map] at ge2
  generalize gi2:F60l1 s21 heq2 0 s10 = gh2 at hR
  refine aY (fun k s=>∃ (i17:Nat),i17 ≤ s10.length ∧ k = s10.length - i17 ∧ F60l1 s21 heq2 i17 (s10.drop i17) = gh2 ∧ s = ⟨[(1,.ro 3 (s21.map zz.c)),(2,.fn geq2 geq2f geq2c),(15,.ro 3 (s10.map zz.c)),(16,.int .i64 (s10.length:Int)),(17,.int .i64 (i17:Int))],[],0⟩) s10.length (by refine ⟨_,?_,0,(by omega),rfl,gi2,rfl⟩; exact Conv.keep [] [] [1,2,15,16,17] rfl rfl (qx rfl rfl (qx rfl (aM geq2k) (qx rfl rfl (qx rfl rfl (qx rfl rfl qy))))) rfl rfl) ?_
  rintro _ _ ⟨i17,gj2,rfl,gg2,rfl⟩ gb2 gd2 gk2 ga2 gc2 gf2
  refine ah qv (ae (.bool (decide ((i17:Int) < (s10.length:Int)))) (aa (ak ?_)))
  rcases qq (decide ((i17:Int) < (s10.length:Int))) with hb3 | hb3
  ·rw [hb3]
   rw [bc hb3,F60l1] at gg2
   refine aq rfl (aT ?_)
   refine aU (gc2 _ ?_)
   subst gg2
   replace hR:=cf hR; try dsimp only at hR
   refine ah qv (af rfl (aa (aj ?_)))
   obtain rfl:=Option.some.inj hR
   exact ai [] (.inr rfl) rfl rfl rfl rfl
  ·rw [hb3]
   obtain ⟨x17,hx2,hd2,hlt2⟩:=aR hb3
   rw [hd2,F60l1] at gg2
   refine ap rfl (aA (ak ?_))
   refine aI (fun _ hK4=>?_)
   refine ah qv (af rfl (aZ (c:=zz.c) (x:=x17) rfl rfl rfl (Int.natCast_nonneg _) hx2 (ae (.agg (zz.c x17)) (aw (v':=.ptr 0 0) (zj:=[(0,.box [.int .i64 0,.int .i64 0,.nils])]) (zk:=1) rfl rfl rfl rfl rfl rfl rfl (af rfl (ay (zj:=[(0,.box (zz.c x17))]) (zk:=1) rfl rfl rfl rfl rfl (aa (ah qv (af rfl (af rfl ?_))))))))))
   rcases wy gg2 with ⟨_,gg2⟩ | ⟨x904,hx904,gg2⟩
   ·subst gg2
    first | replace hR:=wz hR | replace hR:=aJ hR
    cases hR
   try dsimp only at gg2
   obtain ⟨hx9040,hx904j,hx904l,hx904⟩:=ky hx904
   refine aZ (c:=zz.c) (x:=x904) rfl rfl rfl hx9040 hx904 (ae (.agg (zz.c x904)) (aw (v':=.ptr 1 0) (zj:=[(0,.box (zz.c x17)),(1,.box [.int .i64 0,.int .i64 0,.nils])]) (zk:=2) rfl rfl rfl rfl rfl rfl rfl (ay (zj:=[(0,.box (zz.c x17)),(1,.box (zz.c x904))]) (zk:=2) rfl rfl rfl rfl rfl (aa (ah qv (af rfl (ae (.agg (zz.c x17)) (ae (.agg (zz.c x904)) ?_))))))))
   generalize hc29:heq2 x17 x904 = c29 at gg2
   try dsimp only at gg2
   refine cd (r:=.bool c29) rfl rfl rfl (geq2o x17 x904 _ hc29) (closed3 geq2k.1 rfl geq2k.2) rfl (ae (.bool (!c29)) (aa ?_))
   rcases qq (c29) with hb6 | hb6
   ·rw [hb6]; try simp only [hb6,bb] at gg2
    refine ap rfl (ah qv (af rfl (aa (aj (aS ?_)))))
    refine aS (gf2 _ _ ?_)
    subst gg2
    first | replace hR:=dC hR | replace hR:=cf hR | replace hR:=be hR
    try dsimp only at hR
    obtain rfl:=Option.some.inj hR
    exact ai [] (.inr rfl) rfl rfl rfl rfl
   ·rw [hb6]; try simp only [hb6,bb] at gg2
    refine aq rfl (aA ?_)
    refine aB (am (hK4 _ ?_))
    refine az qv (ar (v':=.int .i64 ((i17 + 1:Nat):Int)) rfl rfl rfl rfl (congrArg (PVal.int .i64) (aO hlt2 ge2)) (af rfl (aa ?_)))
    refine aB (am ?_)
    refine ga2 _ (s10.length - (i17 + 1)) _ (by omega) ?_ ⟨i17 + 1,(by omega),rfl,gg2,rfl⟩
    exact Conv.keep [] [] [1,2,15,16,17] rfl rfl (qx rfl rfl (qx rfl (aM geq2k) (qx rfl rfl (qx rfl rfl (qx rfl rfl qy))))) rfl rfl
theorem f61_ok (x0:zz) (y1:zz) (R:Bool) (hR:F61 x0 y1 = R):FnOk Tryz.prog 61 [.agg (zz.c x0),.agg (zz.c y1)] [] 0 (.bool R) [] 0:=by
 refine FnOk.wk i61 rfl rfl ?_
 unfold F61 at hR
 change WK _ _ _ [ac61] _ ⟨[(0,.agg (zz.c x0)),(1,.agg (zz.c y1))],[],0⟩
 unfold ac61
 refine ah qv (aw (v':=.ptr 0 0) (zj:=[(0,.box (zz.c x0))]) (zk:=1) rfl rfl rfl rfl rfl rfl rfl (aw (v':=.ptr 1 0) (zj:=[(0,.box (zz.c x0)),(1,.box (zz.c y1))]) (zk:=2) rfl rfl rfl rfl rfl rfl rfl (af rfl (aa (ah qv (ae (.ptr 0 0) (ae (.int .i64 x0.From) (ae (.ptr 1 0) (ae (.int .i64 y1.From) (ae (.bool (decide (x0.From = y1.From))) (af rfl ?_)))))))))))
 rcases qq (decide (x0.From = y1.From)) with hb1 | hb1
 ·rw [hb1]; try simp only [hb1,bb] at hR
  iterate 5 refine ag rfl rfl ?_
  refine ae (.bool false) (af rfl (aa (aj ?_)))
  subst hR
  exact ai [] (.inr rfl) rfl rfl rfl rfl
 ·rw [hb1]; try simp only [hb1,bb] at hR
  refine ae (.ptr 0 1) (ae (.int .i64 x0.To) (ae (.ptr 1 1) (ae (.int .i64 y1.To) (ae (.bool (decide (x0.To = y1.To))) (ae (.bool (decide (x0.To = y1.To))) (af rfl (aa (aj ?_))))))))
  subst hR
  exact ai [] (.inr rfl) rfl rfl rfl rfl
theorem f62_ok (s10:List zw) (s21:List zw) (R:Bool) (hR:F62 s10 s21 = some R):FnOk Tryz.prog 62 [.ro 3 (s10.map zw.c),.ro 3 (s21.map zw.c)] [] 0 (.bool R) [] 0:=by
 refine FnOk.wk i62 rfl rfl ?_
 unfold F62 at hR
 try dsimp only at hR
 change WK _ _ _ [ac62] _ ⟨[(0,.ro 3 (s10.map zw.c)),(1,.ro 3 (s21.map zw.c))],[],0⟩
 unfold ac62
 refine ah qv (af rfl (aa (ak (ah qv (af rfl (ar (v':=.int .i64 (s10.length:Int)) rfl rfl rfl rfl (ww _ _) (af rfl (ar (v':=.int .i64 (s21.length:Int)) rfl rfl rfl rfl (ww _ _) (ae (.bool (!decide ((s10.length:Int) = (s21.length:Int)))) (aa ?_))))))))))
 rcases qq (decide ((s10.length:Int) = (s21.length:Int))) with hb1 | hb1
 ·rw [hb1]; first | replace hR:=kw hb1 hR | (try simp only [hb1,bb] at hR)
  refine ap rfl (ah qv (af rfl (aa (aj ?_))))
  obtain rfl:=Option.some.inj hR
  exact ai [] (.inr rfl) rfl rfl rfl rfl
 ·rw [hb1]; first | replace hR:=kz hb1 hR | (try simp only [hb1,bb] at hR)
  refine aq rfl (aA (ak (ah qv (af rfl (ar (v':=.int .i64 (s10.length:Int)) rfl rfl rfl rfl (ww _ _) (af rfl (aa ?_)))))))
  refine bq (t:=0) rfl (by simp) (fun ge2=>?_)
  rw [List.length_map] at ge2
  generalize gi2:F62l1 s21 0 s10 = gh2 at hR
  refine aY (fun k s=>∃ (i13:Nat),i13 ≤ s10.length ∧ k = s10.length - i13 ∧ F62l1 s21 i13 (s10.drop i13) = gh2 ∧ s = ⟨[(0,.ro 3 (s10.map zw.c)),(1,.ro 3 (s21.map zw.c)),(12,.int .i64 (s10.length:Int)),(13,.int .i64 (i13:Int))],[],0⟩) s10.length (by refine ⟨_,?_,0,(by omega),rfl,gi2,rfl⟩; exact Conv.keep [] [] [0,1,12,13] rfl rfl (qx rfl rfl (qx rfl rfl (qx rfl rfl (qx rfl rfl qy)))) rfl rfl) ?_
  rintro _ _ ⟨i13,gj2,rfl,gg2,rfl⟩ gb2 gd2 gk2 ga2 gc2 gf2
  refine ah qv (ae (.bool (decide ((i13:Int) < (s10.length:Int)))) (aa (ak ?_)))
  rcases qq (decide ((i13:Int) < (s10.length:Int))) with hb3 | hb3
  ·rw [hb3]
   rw [bc hb3,F62l1] at gg2
   refine aq rfl (aT ?_)
   refine aU (gc2 _ ?_)
   subst gg2
   replace hR:=cf hR; try dsimp only at hR
   refine ah qv (af rfl (aa (aj ?_)))
   obtain rfl:=Option.some.inj hR
   exact ai [] (.inr rfl) rfl rfl rfl rfl
  ·rw [hb3]
   obtain ⟨x13,hx2,hd2,hlt2⟩:=aR hb3
   rw [hd2,F62l1] at gg2
   refine ap rfl (aA (ak ?_))
   refine aI (fun _ hK4=>?_)
   refine ah qv (af rfl (af rfl (aa (ak (aE qv (aG rfl (aG rfl (bn (c:=zw.c) (x:=x13) rfl rfl rfl (Int.natCast_nonneg _) hx2 (au (.agg (zw.c x13)) (aG rfl (aG rfl ?_)))))))))))
   rcases wy gg2 with ⟨_,gg2⟩ | ⟨x904,hx904,gg2⟩
   ·subst gg2
    first | replace hR:=wz hR | replace hR:=aJ hR
    cases hR
   try dsimp only at gg2
   obtain ⟨hx9040,hx904j,hx904l,hx904⟩:=ky hx904
   refine bn (c:=zw.c) (x:=x904) rfl rfl rfl hx9040 hx904 (au (.agg (zw.c x904)) (au (.bool (!(decide (x13.At = x904.At) && (decide (x13.P.A = x904.P.A) && (decide (x13.P.N = x904.P.N) && true))))) (aH rfl ?_)))
   rcases qq (decide (x13.At = x904.At) && (decide (x13.P.A = x904.P.A) && (decide (x13.P.N = x904.P.N) && true))) with hb6 | hb6
   ·rw [hb6]; try simp only [hb6,bb] at gg2
    refine ap rfl (ah qv (af rfl (aa (aj (aS ?_)))))
    refine aS (gf2 _ _ ?_)
    subst gg2
    first | replace hR:=dC hR | replace hR:=cf hR | replace hR:=be hR
    try dsimp only at hR
    obtain rfl:=Option.some.inj hR
    exact ai [] (.inr rfl) rfl rfl rfl rfl
   ·rw [hb6]; try simp only [hb6,bb] at gg2
    refine aq rfl (aA ?_)
    refine aB (am (hK4 _ ?_))
    refine az qv (ar (v':=.int .i64 ((i13 + 1:Nat):Int)) rfl rfl rfl rfl (congrArg (PVal.int .i64) (aO hlt2 ge2)) (af rfl (aa ?_)))
    refine aB (am ?_)
    refine ga2 _ (s10.length - (i13 + 1)) _ (by omega) ?_ ⟨i13 + 1,(by omega),rfl,gg2,rfl⟩
    exact Conv.keep [] [] [0,1,12,13] rfl rfl (qx rfl rfl (qx rfl rfl (qx rfl rfl (qx rfl rfl qy)))) rfl rfl
theorem f21_ok (a0:TNet) (b1:TNet) (R:Bool) (hR:F21 a0 b1 = some R):FnOk Tryz.prog 21 [.agg (TNet.c a0),.agg (TNet.c b1)] [] 0 (.bool R) [] 0:=by
 refine FnOk.wk i21 rfl rfl ?_
 unfold F21 at hR
 try dsimp only at hR
 change WK _ _ _ [ac21] _ ⟨[(0,.agg (TNet.c a0)),(1,.agg (TNet.c b1))],[],0⟩
 unfold ac21
 refine ah qv (aw (v':=.ptr 0 0) (zj:=[(0,.box (TNet.c a0))]) (zk:=1) rfl rfl rfl rfl rfl rfl rfl (aw (v':=.ptr 1 0) (zj:=[(0,.box (TNet.c a0)),(1,.box (TNet.c b1))]) (zk:=2) rfl rfl rfl rfl rfl rfl rfl (af rfl (aa (ah qv (ae (.ptr 0 0) (ae (.ro 1 (a0.T.map qk.c)) (ae (.ptr 1 0) (ae (.ro 1 (b1.T.map qk.c)) ?_)))))))))
 obtain ⟨c12,hc12,hR⟩:=wx hR; try dsimp only at hR
 try dsimp only at hR
 refine av (r:=.bool c12) rfl rfl rfl (f54_ok a0.T b1.T 55 [] [] (fun y0 y1=>F55 y0 y1) ⟨rfl,rfl⟩ (fun y0 y1 _ hr=>f55_ok y0 y1 _ hr) _ hc12) rfl rfl (af rfl (aa (ah qv (ae (.ptr 0 1) (ae (.ro 1 (a0.Sel.map (wv 10 qj.c))) (ae (.ptr 1 1) (ae (.ro 1 (b1.Sel.map (wv 10 qj.c))) ?_)))))))
 obtain ⟨c17,hc17,hR⟩:=wx hR; try dsimp only at hR
 try dsimp only at hR
 refine av (r:=.bool c17) rfl rfl rfl (f58_ok a0.Sel b1.Sel 59 [] [] (fun y0 y1=>F59 y0 y1) ⟨rfl,rfl⟩ (fun y0 y1 _ hr=>f59_ok y0 y1 _ hr) _ hc17) rfl rfl (af rfl (aa (ah qv (ae (.ptr 0 2) (ae (.ro 3 (a0.L.map zz.c)) (ae (.ptr 1 2) (ae (.ro 3 (b1.L.map zz.c)) ?_)))))))
 obtain ⟨c22,hc22,hR⟩:=wx hR; try dsimp only at hR
 try dsimp only at hR
 refine av (r:=.bool c22) rfl rfl rfl (f60_ok a0.L b1.L 61 [] [] (fun y0 y1=>F61 y0 y1) ⟨rfl,rfl⟩ (fun y0 y1 _ hr=>f61_ok y0 y1 _ hr) _ hc22) rfl rfl (af rfl (aa (ah qv (af rfl (af rfl ?_)))))
 rcases qq (c12) with hb1 | hb1
 ·rw [hb1]; first | replace hR:=kw hb1 hR | (try simp only [hb1,bb] at hR)
  refine ag rfl rfl (ae (.bool false) (af rfl (ag rfl rfl (ae (.bool false) (af rfl ?_)))))
  iterate 5 refine ag rfl rfl ?_
  refine ae (.bool false) (af rfl ?_)
  iterate 5 refine ag rfl rfl ?_
  refine ae (.bool false) (af rfl (aa (aj ?_)))
  obtain rfl:=Option.some.inj hR
  exact ai [] (.inr rfl) rfl rfl rfl rfl
 ·rw [hb1]; first | replace hR:=kz hb1 hR | (try simp only [hb1,bb] at hR)
  refine af rfl (ae (.bool c17) (af rfl ?_))
  rcases qq (c17) with hb2 | hb2
  ·rw [hb2]; first | replace hR:=kw hb2 hR | (try simp only [hb2,bb] at hR)
   refine ag rfl rfl (ae (.bool false) (af rfl ?_))
   iterate 5 refine ag rfl rfl ?_
   refine ae (.bool false) (af rfl ?_)
   iterate 5 refine ag rfl rfl ?_
   refine ae (.bool false) (af rfl (aa (aj ?_)))
   obtain rfl:=Option.some.inj hR
   exact ai [] (.inr rfl) rfl rfl rfl rfl
  ·rw [hb2]; first | replace hR:=kz hb2 hR | (try simp only [hb2,bb] at hR)
   refine af rfl (ae (.bool c22) (af rfl ?_))
   rcases qq (c22) with hb3 | hb3
   ·rw [hb3]; first | replace hR:=kw hb3 hR | (try simp only [hb3,bb] at hR)
    iterate 5 refine ag rfl rfl ?_
    refine ae (.bool false) (af rfl ?_)
    iterate 5 refine ag rfl rfl ?_
    refine ae (.bool false) (af rfl (aa (aj ?_)))
    obtain rfl:=Option.some.inj hR
    exact ai [] (.inr rfl) rfl rfl rfl rfl
   ·rw [hb3]; first | replace hR:=kz hb3 hR | (try simp only [hb3,bb] at hR)
    refine ae (.ptr 0 3) (ae (.ro 3 (a0.Work.map zw.c)) (ae (.ptr 1 3) (ae (.ro 3 (b1.Work.map zw.c)) ?_)))
    obtain ⟨c35,hc35,hR⟩:=wx hR; try dsimp only at hR
    try dsimp only at hR
    refine av (r:=.bool c35) rfl rfl rfl (f62_ok a0.Work b1.Work _ hc35) rfl rfl (ae (.bool c35) (af rfl ?_))
    rcases qq (c35) with hb4 | hb4
    ·rw [hb4]; first | replace hR:=kw hb4 hR | (try simp only [hb4,bb] at hR)
     iterate 5 refine ag rfl rfl ?_
     refine ae (.bool false) (af rfl (aa (aj ?_)))
     obtain rfl:=Option.some.inj hR
     exact ai [] (.inr rfl) rfl rfl rfl rfl
    ·rw [hb4]; first | replace hR:=kz hb4 hR | (try simp only [hb4,bb] at hR)
     refine ae (.ptr 0 4) (ae (.bool a0.Over) (ae (.ptr 1 4) (ae (.bool b1.Over) (ae (.bool (a0.Over == b1.Over)) (ae (.bool (a0.Over == b1.Over)) (af rfl (aa (aj ?_))))))))
     obtain rfl:=Option.some.inj hR
     exact ai [] (.inr rfl) rfl rfl rfl rfl
theorem f63_ok (l0:List zy) (p1:zy) (R:(List zy)) (hR:F63 l0 p1 = some R):FnOk Tryz.prog 63 [.own 0 2 0 l0.length,.agg (zy.c p1)] [(0,.row 2 39 (l0.map zy.c))] 1 (.own 1 2 0 R.length) [(1,.row 2 39 (R.map zy.c))] 2:=by
 refine FnOk.wk i63 rfl rfl ?_
 unfold F63 at hR
 try dsimp only at hR
 change WK _ _ _ [ac63] _ ⟨[(0,.own 0 2 0 l0.length),(1,.agg (zy.c p1))],[(0,.row 2 39 (l0.map zy.c))],1⟩
 unfold ac63
 refine WK.mvT (t:=0) (zj:=[(1,.row 2 39 (l0.map zy.c))]) rfl rfl (by simp) rfl (ah qv (aw (v':=.ptr 2 0) (zj:=[(1,.row 2 39 (l0.map zy.c)),(2,.box (zy.c p1))]) (zk:=3) rfl rfl rfl rfl rfl rfl rfl (af rfl (aa (ak (ah qv (af rfl (aa ?_))))))))
 refine WK.leno (id:=1) rfl (by simp) (fun ge1=>?_)
 rw [List.length_map] at ge1
 generalize gi1:F63l1 l0 p1 l0 = gh1 at hR
 refine aY (fun k s=>∃ (i5:Nat),i5 ≤ l0.length ∧ k = l0.length - i5 ∧ F63l1 l0 p1 (l0.drop i5) = gh1 ∧ s = ⟨[(0,.own 1 2 0 l0.length),(3,.ptr 2 0),(5,.int .i64 (i5:Int))],[(1,.row 2 39 (l0.map zy.c)),(2,.box (zy.c p1))],3⟩) l0.length (by refine ⟨_,?_,0,(by omega),rfl,gi1,rfl⟩; exact bm [0,1,2] [] [0,3,5] rfl rfl (qx rfl rfl (qx rfl rfl (qx rfl rfl qy))) rfl rfl) ?_
 rintro _ _ ⟨i5,gj1,rfl,gg1,rfl⟩ gb1 gd1 gk1 ga1 gc1 hQ_1
 refine ak (ah qv (af rfl (af rfl (ae (.int .i64 (l0.length:Int)) (ae (.bool (decide ((i5:Int) < (l0.length:Int)))) (aa ?_))))))
 rcases qq (decide ((i5:Int) < (l0.length:Int))) with hb2 | hb2
 ·rw [hb2]
  rw [bc hb2,F63l1] at gg1
  refine aq rfl (aT ?_)
  refine aU (gc1 _ ?_)
  subst gg1
  replace hR:=cf hR; try dsimp only at hR
  refine ah qv (af rfl (ae (.agg (zy.c p1)) (aw (v':=.own 3 2 0 (([p1]:List zy)).length) (zj:=[(1,.row 2 39 (l0.map zy.c)),(2,.box (zy.c p1)),(3,.row 2 39 (([p1]:List zy).map zy.c))]) (zk:=4) rfl rfl rfl rfl rfl rfl rfl ?_)))
  obtain ⟨hg3,hg3_,hR⟩:=gd hR; try dsimp only at hR
  refine gz (c:=zy.c) (L:=l0) (X:=([p1]:List zy)) (zj:=[(2,.box (zy.c p1)),(3,.row 2 39 (([p1]:List zy).map zy.c)),(4,.row 2 39 ((l0 ++ ([p1]:List zy)).map zy.c))]) (zk:=5) rfl rfl rfl rfl (du rfl) (by ((try simp only [List.length_append,List.length_cons,List.length_nil,List.length_map,decide_eq_true_eq,decide_eq_false_iff_not] at *) <;> omega)) (by ((try simp only [List.length_append,List.length_cons,List.length_nil,List.length_map,decide_eq_true_eq,decide_eq_false_iff_not] at *) <;> omega)) rfl rfl rfl rfl (af rfl (aa (aj ?_)))
  obtain rfl:=Option.some.inj hR
  exact RetQ.ret [0,4] [] (.inr rfl) rfl rfl rfl rfl rfl .refl rfl
 ·rw [hb2]
  obtain ⟨x5,hx1,hd1,hlt1⟩:=aR hb2
  rw [hd1,F63l1] at gg1
  refine ap rfl (aA (ak ?_))
  refine aI (fun _ hK4=>?_)
  refine ak (aE qv (aG rfl (aG rfl (aF (v':=.eptr 1 2 i5 0) rfl rfl rfl (aK (c:=zy.c) (L:=l0) (j:=i5) rfl (by omega) (by omega) (by exact Nat.le_refl _)) rfl (aF (v':=.agg (zy.c x5)) rfl rfl rfl (bf (c:=zy.c) (L:=l0) (x:=x5) rfl hx1 rfl) rfl (au (.agg (zy.c p1)) (au (.bool (decide (x5.A = p1.A) && (decide (x5.N = p1.N) && true))) (aH rfl ?_))))))))
  rcases qq ((decide (x5.A = p1.A) && (decide (x5.N = p1.N) && true))) with hb5 | hb5
  ·rw [hb5]; try simp only [hb5,bb] at gg1
   refine aq rfl (aA ?_)
   refine aB (am (hK4 _ ?_))
   refine az qv (af rfl (ar (v':=.int .i64 ((i5 + 1:Nat):Int)) rfl rfl rfl rfl (congrArg (PVal.int .i64) (aO hlt1 ge1)) (af rfl (aa ?_))))
   refine aB (am ?_)
   refine ga1 _ (l0.length - (i5 + 1)) _ (by omega) ?_ ⟨i5 + 1,(by omega),rfl,gg1,rfl⟩
   exact bm [0,1,2] [] [0,3,5] rfl rfl (qx rfl rfl (qx rfl rfl (qx rfl rfl qy))) rfl rfl
  ·rw [hb5]; try simp only [hb5,bb] at gg1
   refine ap rfl (ah qv (af rfl (af rfl (aa (aj (aS ?_))))))
   refine aS (hQ_1 _ _ ?_)
   subst gg1
   first | replace hR:=dC hR | replace hR:=cf hR | replace hR:=be hR
   try dsimp only at hR
   obtain rfl:=Option.some.inj hR
   exact RetQ.ret [0,1] [] (.inr rfl) rfl rfl rfl rfl rfl .refl rfl
theorem f22_ok (n0:TNet) (R:Int) (hR:F22 n0 = some R):FnOk Tryz.prog 22 [.agg (TNet.c n0)] [] 0 (.int .i64 R) [] 0:=by
 refine FnOk.wk i22 rfl rfl ?_
 unfold F22 at hR
 try dsimp only at hR
 change WK _ _ _ [ac22] _ ⟨[(0,.agg (TNet.c n0))],[],0⟩
 unfold ac22
 refine ah qv (aw (v':=.ptr 0 0) (zj:=[(0,.box (TNet.c n0))]) (zk:=1) rfl rfl rfl rfl rfl rfl rfl (af rfl (aa (ah qv (aw (v':=.own 1 2 0 (([]:List zy)).length) (zj:=[(0,.box (TNet.c n0)),(1,.row 2 39 (([]:List zy).map zy.c))]) (zk:=2) rfl rfl rfl rfl rfl rfl rfl (af rfl (aa (ak (ah qv (af rfl (aa ?_)))))))))))
 refine WK.lenb (id:=0) (j:=0) rfl rfl (by simp) (fun ge18=>?_)
 rw [List.length_map] at ge18
 generalize gi18:F22l4 ([]:List zy) n0.T = gh18 at hR
 refine aY (fun k s=>∃ (i4:Nat) (l3:List zy),i4 ≤ n0.T.length ∧ k = n0.T.length - i4 ∧ F22l4 l3 (n0.T.drop i4) = gh18 ∧ s = ⟨[(1,.ptr 0 0),(3,.own 1 2 0 l3.length),(4,.int .i64 (i4:Int))],[(0,.box (TNet.c n0)),(1,.row 2 39 (l3.map zy.c))],2⟩) n0.T.length (by refine ⟨_,?_,0,([]:List zy),(by omega),rfl,gi18,rfl⟩; exact Conv.keep [0,1] [] [1,3,4] rfl rfl (qx rfl rfl (qx rfl rfl (qx rfl rfl qy))) rfl rfl) ?_
 rintro _ _ ⟨i4,l3,gj18,rfl,gg18,rfl⟩ gb18 gd18 gk18 ga18 gc18 gf18
 refine ak (ah qv (af rfl (ae (.ptr 0 0) (ae (.ro 1 (n0.T.map qk.c)) (ar (v':=.int .i64 (n0.T.length:Int)) rfl rfl rfl rfl (ww _ _) (ae (.bool (decide ((i4:Int) < (n0.T.length:Int)))) (aa ?_)))))))
 rcases qq (decide ((i4:Int) < (n0.T.length:Int))) with hb19 | hb19
 ·rw [hb19]
  rw [bc hb19,F22l4] at gg18
  refine aq rfl (aT ?_)
  refine aU (gc18 _ ?_)
  subst gg18
  replace hR:=be hR; try dsimp only at hR
  refine ak (ah qv (af rfl (aa ?_)))
  refine WK.lenb (id:=0) (j:=3) rfl rfl (by simp) (fun ge24=>?_)
  rw [List.length_map] at ge24
  generalize gi24:F22l2 l3 n0.Work = gh24 at hR
  refine aY (fun k s=>∃ (i6:Nat) (l3x:List zy),i6 ≤ n0.Work.length ∧ k = n0.Work.length - i6 ∧ F22l2 l3x (n0.Work.drop i6) = gh24 ∧ s = ⟨[(1,.ptr 0 0),(3,.own 1 2 0 l3x.length),(6,.int .i64 (i6:Int))],[(0,.box (TNet.c n0)),(1,.row 2 39 (l3x.map zy.c))],2⟩) n0.Work.length (by refine ⟨_,?_,0,l3,(by omega),rfl,gi24,rfl⟩; exact Conv.keep [0,1] [] [1,3,6] rfl rfl (qx rfl rfl (qx rfl rfl (qx rfl rfl qy))) rfl rfl) ?_
  rintro _ _ ⟨i6,l3x,gj24,rfl,gg24,rfl⟩ gb24 gd24 gk24 ga24 gc24 gf24
  refine ak (ah qv (af rfl (ae (.ptr 0 3) (ae (.ro 3 (n0.Work.map zw.c)) (ar (v':=.int .i64 (n0.Work.length:Int)) rfl rfl rfl rfl (ww _ _) (ae (.bool (decide ((i6:Int) < (n0.Work.length:Int)))) (aa ?_)))))))
  rcases qq (decide ((i6:Int) < (n0.Work.length:Int))) with hb25 | hb25
  ·rw [hb25]
   rw [bc hb25,F22l2] at gg24
   refine aq rfl (aT ?_)
   refine aU (gc24 _ ?_)
   subst gg24
   replace hR:=be hR; try dsimp only at hR
   refine ah qv (af rfl (ae (.int .i64 (l3x.length:Int)) (af rfl (aa (aj ?_)))))
   obtain rfl:=Option.some.inj hR
   exact ai [] (.inr rfl) rfl rfl rfl rfl
  ·rw [hb25]
   obtain ⟨x6,hx24,hd24,hlt24⟩:=aR hb25
   rw [hd24,F22l2] at gg24
   refine ap rfl (aA (ak ?_))
   refine aI (fun _ hK26=>?_)
   refine az qv (af rfl (ae (.ptr 0 3) (ae (.ro 3 (n0.Work.map zw.c)) (af rfl (aZ (c:=zw.c) (x:=x6) rfl rfl rfl (Int.natCast_nonneg _) hx24 (ae (.rptr (zy.c x6.P)) (ae (.agg (zy.c x6.P)) ?_)))))))
   rcases wy gg24 with ⟨_,gg24⟩ | ⟨c52,hc52,gg24⟩
   ·subst gg24
    first | replace hR:=wz hR | replace hR:=aJ hR
    cases hR
   try dsimp only at gg24
   try dsimp only at gg24
   refine bd (r':=.own 2 2 0 c52.length) (zj:=[(0,.box (TNet.c n0)),(2,.row 2 39 (c52.map zy.c))]) (zk:=3) [1] [] rfl rfl rfl rfl rfl rfl (f63_ok l3x x6.P _ hc52) (.inl rfl) rfl rfl rfl (af rfl (aa ?_))
   refine aB (am (hK26 _ ?_))
   refine az qv (af rfl (ar (v':=.int .i64 ((i6 + 1:Nat):Int)) rfl rfl rfl rfl (congrArg (PVal.int .i64) (aO hlt24 ge24)) (af rfl (aa ?_))))
   refine aB (am ?_)
   refine ga24 _ (n0.Work.length - (i6 + 1)) _ (by omega) ?_ ⟨i6 + 1,c52,(by omega),rfl,gg24,rfl⟩
   exact Conv.keep [0,2] [] [1,3,6] rfl rfl (qx rfl rfl (qx rfl rfl (qx rfl rfl qy))) rfl rfl
 ·rw [hb19]
  obtain ⟨x4,hx18,hd18,hlt18⟩:=aR hb19
  rw [hd18,F22l4] at gg18
  refine ap rfl (aA (ak ?_))
  refine aI (fun _ hK28=>?_)
  refine ah qv (af rfl (aa ?_))
  refine WK.lenI (t:=10) rfl (.ro i4 0 (map_at hx18) rfl .refl) (by simp) (fun ge33=>?_)
  rw [List.length_map] at ge33
  generalize gi33:F22l3 l3 x4.L = gh33 at gg18
  refine aY (fun k s=>∃ (i5:Nat) (l3x:List zy),i5 ≤ x4.L.length ∧ k = x4.L.length - i5 ∧ F22l3 l3x (x4.L.drop i5) = gh33 ∧ s = ⟨[(1,.ptr 0 0),(3,.own 1 2 0 l3x.length),(4,.int .i64 (i4:Int)),(5,.int .i64 (i5:Int))],[(0,.box (TNet.c n0)),(1,.row 2 39 (l3x.map zy.c))],2⟩) x4.L.length (by refine ⟨_,?_,0,l3,(by omega),rfl,gi33,rfl⟩; exact Conv.keep [0,1] [] [1,3,4,5] rfl rfl (qx rfl rfl (qx rfl rfl (qx rfl rfl (qx rfl rfl qy)))) rfl rfl) ?_
  rintro _ _ ⟨i5,l3x,gj33,rfl,gg33,rfl⟩ gb33 gd33 gk33 ga33 gc33 gf33
  refine ak (ah qv (af rfl (ae (.ptr 0 0) (ae (.ro 1 (n0.T.map qk.c)) (af rfl (aZ (c:=qk.c) (x:=x4) rfl rfl rfl (Int.natCast_nonneg _) hx18 (ae (.rptr (qk.c x4)) (ae (.ro 10 (x4.L.map qj.c)) (ar (v':=.int .i64 (x4.L.length:Int)) rfl rfl rfl rfl (ww _ _) (ae (.bool (decide ((i5:Int) < (x4.L.length:Int)))) (aa ?_)))))))))))
  rcases qq (decide ((i5:Int) < (x4.L.length:Int))) with hb34 | hb34
  ·rw [hb34]
   rw [bc hb34,F22l3] at gg33
   refine aq rfl (aT ?_)
   refine aU (gc33 _ ?_)
   subst gg33
   replace gg18:=be gg18; try dsimp only at gg18
   refine aB (am (hK28 _ ?_))
   refine az qv (af rfl (ar (v':=.int .i64 ((i4 + 1:Nat):Int)) rfl rfl rfl rfl (congrArg (PVal.int .i64) (aO hlt18 ge18)) (af rfl (aa ?_))))
   refine aB (am ?_)
   refine ga18 _ (n0.T.length - (i4 + 1)) _ (by omega) ?_ ⟨i4 + 1,l3x,(by omega),rfl,gg18,rfl⟩
   exact Conv.keep [0,1] [] [1,3,4] rfl rfl (qx rfl rfl (qx rfl rfl (qx rfl rfl qy))) rfl rfl
  ·rw [hb34]
   obtain ⟨x5,hx33,hd33,hlt33⟩:=aR hb34
   rw [hd33,F22l3] at gg33
   refine ap rfl (aA (ak ?_))
   refine aI (fun _ hK35=>?_)
   refine az qv (af rfl (ae (.ptr 0 0) (ae (.ro 1 (n0.T.map qk.c)) (af rfl (aZ (c:=qk.c) (x:=x4) rfl rfl rfl (Int.natCast_nonneg _) hx18 (ae (.rptr (qk.c x4)) (ae (.ro 10 (x4.L.map qj.c)) (af rfl (aZ (c:=qj.c) (x:=x5) rfl rfl rfl (Int.natCast_nonneg _) hx33 (ae (.rptr (qj.c x5)) (ae (.agg (zy.c x5.P)) ?_)))))))))))
   rcases wy gg33 with ⟨_,gg33⟩ | ⟨c37,hc37,gg33⟩
   ·subst gg33
    first | replace gg18:=wz gg18 | replace gg18:=aJ gg18
    subst gg18
    first | replace hR:=wz hR | replace hR:=aJ hR
    cases hR
   try dsimp only at gg33
   try dsimp only at gg33
   refine bd (r':=.own 2 2 0 c37.length) (zj:=[(0,.box (TNet.c n0)),(2,.row 2 39 (c37.map zy.c))]) (zk:=3) [1] [] rfl rfl rfl rfl rfl rfl (f63_ok l3x x5.P _ hc37) (.inl rfl) rfl rfl rfl (af rfl (aa ?_))
   refine aB (am (hK35 _ ?_))
   refine az qv (af rfl (ar (v':=.int .i64 ((i5 + 1:Nat):Int)) rfl rfl rfl rfl (congrArg (PVal.int .i64) (aO hlt33 ge33)) (af rfl (aa ?_))))
   refine aB (am ?_)
   refine ga33 _ (x4.L.length - (i5 + 1)) _ (by omega) ?_ ⟨i5 + 1,c37,(by omega),rfl,gg33,rfl⟩
   exact Conv.keep [0,2] [] [1,3,4,5] rfl rfl (qx rfl rfl (qx rfl rfl (qx rfl rfl (qx rfl rfl qy)))) rfl rfl
theorem f5_ok (size0:Int) (script1:List TAct) (picks2:TS) (R:Bool) (hR:F5 size0 script1 picks2 = some R):FnOk Tryz.prog 5 [.int .i64 size0,.ro 14 (script1.map TAct.c),.agg (TS.c picks2)] [] 0 (.bool R) [] 0:=by
 refine FnOk.wk i5 rfl rfl ?_
 unfold F5 at hR
 try dsimp only at hR
 change WK _ _ _ [ac5] _ ⟨[(0,.int .i64 size0),(1,.ro 14 (script1.map TAct.c)),(2,.agg (TS.c picks2))],[],0⟩
 unfold ac5
 refine ah qv (aw (v':=.ptr 0 0) (zj:=[(0,.box (TS.c picks2))]) (zk:=1) rfl rfl rfl rfl rfl rfl rfl (af rfl (aa (ah qv (af rfl (af rfl ?_))))))
 obtain ⟨c18,hc18,hR⟩:=wx hR; try dsimp only at hR
 refine av (r:=.tup [.agg (TNet.c c18.1),.bool c18.2]) rfl rfl rfl (f7_ok size0 script1 _ hc18) rfl rfl (af rfl (ae (.agg (TNet.c c18.1)) (ae (.bool c18.2) (aw (v':=.ptr 1 0) (zj:=[(0,.box (TS.c picks2)),(1,.box [.nils,.nils,.nils,.nils,.bool false])]) (zk:=2) rfl rfl rfl rfl rfl rfl rfl (ay (zj:=[(0,.box (TS.c picks2)),(1,.box (TNet.c c18.1))]) (zk:=2) rfl rfl rfl rfl rfl (af rfl (aa (ak (ah qv (af rfl (ae (.bool (!c18.2)) (af rfl ?_))))))))))))
 rcases qq (c18.2) with hb1 | hb1
 ·rw [hb1]; first | replace hR:=kw hb1 hR | (try simp only [hb1,bb] at hR)
  iterate 4 refine ag rfl rfl ?_
  refine ae (.bool true) (af rfl ?_)
  iterate 4 refine ag rfl rfl ?_
  refine ae (.bool true) (aa (ap rfl (ah qv ?_)))
  obtain ⟨c35,hc35,hR⟩:=wx hR; try dsimp only at hR
  try dsimp only at hR
  refine av (r:=.bool c35) rfl rfl rfl (f8_ok  _ hc35) rfl rfl (af rfl (aa (aj ?_)))
  obtain rfl:=Option.some.inj hR
  exact ai [] (.inr rfl) rfl rfl rfl rfl
 ·rw [hb1]; first | replace hR:=kz hb1 hR | (try simp only [hb1,bb] at hR)
  refine ae (.ptr 0 0) ?_
  refine ae (.ro 1 (picks2.e0.map co)) ?_
  refine ar (v':=.int .i64 (picks2.e0.length:Int)) rfl rfl rfl rfl (ww _ _) ?_
  iterate 2 refine ae (.bool (decide (100 < (picks2.e0.length:Int)))) ?_
  refine af rfl ?_
  rcases qq (decide (100 < (picks2.e0.length:Int))) with hb2 | hb2
  ·rw [hb2]; first | replace hR:=kw hb2 hR | (try simp only [hb2,bb] at hR)
   refine ae (.ptr 0 1) ?_
   refine ae (.ro 1 (picks2.e1.map co)) ?_
   refine ar (v':=.int .i64 (picks2.e1.length:Int)) rfl rfl rfl rfl (ww _ _) ?_
   iterate 2 refine ae (.bool (decide (100 < (picks2.e1.length:Int)))) ?_
   refine aa ?_
   rcases qq (decide (100 < (picks2.e1.length:Int))) with hb3 | hb3
   ·rw [hb3]; first | replace hR:=kw hb3 hR | (try simp only [hb3,bb] at hR)
    refine aq rfl (aA (ah qv (ae (.agg (TNet.c c18.1)) (ae (.ptr 0 0) (ae (.ro 1 (picks2.e0.map co)) ?_)))))
    obtain ⟨c40,hc40,hR⟩:=wx hR; try dsimp only at hR
    refine av (r:=.tup [.agg (TNet.c c40.1),.int .i64 c40.2]) rfl rfl rfl (f9_ok c18.1 picks2.e0 _ hc40) rfl rfl (af rfl (ae (.agg (TNet.c c40.1)) (ae (.int .i64 c40.2) (aw (v':=.ptr 2 0) (zj:=[(0,.box (TS.c picks2)),(1,.box (TNet.c c18.1)),(2,.box [.nils,.nils,.nils,.nils,.bool false])]) (zk:=3) rfl rfl rfl rfl rfl rfl rfl (ay (zj:=[(0,.box (TS.c picks2)),(1,.box (TNet.c c18.1)),(2,.box (TNet.c c40.1))]) (zk:=3) rfl rfl rfl rfl rfl (af rfl (aa (ah qv (ae (.agg (TNet.c c18.1)) (ae (.ptr 0 1) (ae (.ro 1 (picks2.e1.map co)) ?_)))))))))))
    obtain ⟨c47,hc47,hR⟩:=wx hR; try dsimp only at hR
    refine av (r:=.tup [.agg (TNet.c c47.1),.int .i64 c47.2]) rfl rfl rfl (f9_ok c18.1 picks2.e1 _ hc47) rfl rfl (af rfl (ae (.agg (TNet.c c47.1)) (ae (.int .i64 c47.2) (aw (v':=.ptr 3 0) (zj:=[(0,.box (TS.c picks2)),(1,.box (TNet.c c18.1)),(2,.box (TNet.c c40.1)),(3,.box [.nils,.nils,.nils,.nils,.bool false])]) (zk:=4) rfl rfl rfl rfl rfl rfl rfl (ay (zj:=[(0,.box (TS.c picks2)),(1,.box (TNet.c c18.1)),(2,.box (TNet.c c40.1)),(3,.box (TNet.c c47.1))]) (zk:=4) rfl rfl rfl rfl rfl (af rfl (aa (ah qv (ae (.agg (TNet.c c18.1)) ?_)))))))))
    obtain ⟨c51,hc51,hR⟩:=wx hR; try dsimp only at hR
    try dsimp only at hR
    refine av (r:=.int .i64 c51) rfl rfl rfl (f22_ok c18.1 _ hc51) rfl rfl (ae (.int .i64 (IntKind.i64.wrap (400 * c51))) (af rfl (aa (ak (ah qv (af rfl (af rfl (ae (.bool (decide (IntKind.i64.wrap (400 * c51) < c40.2))) (af rfl ?_)))))))))
    rcases qq (decide (IntKind.i64.wrap (400 * c51) < c40.2)) with hb4 | hb4
    ·rw [hb4]; first | replace hR:=kw hb4 hR | (try simp only [hb4,bb] at hR)
     iterate 2 refine af rfl ?_
     iterate 2 refine ae (.bool (decide (IntKind.i64.wrap (400 * c51) < c47.2))) ?_
     refine af rfl ?_
     rcases qq (decide (IntKind.i64.wrap (400 * c51) < c47.2)) with hb5 | hb5
     ·rw [hb5]; first | replace hR:=kw hb5 hR | (try simp only [hb5,bb] at hR)
      refine ae (.ptr 2 3) (ae (.ro 3 (c40.1.Work.map zw.c)) (ar (v':=.int .i64 (c40.1.Work.length:Int)) rfl rfl rfl rfl (ww _ _) (ae (.ptr 3 3) (ae (.ro 3 (c47.1.Work.map zw.c)) (ar (v':=.int .i64 (c47.1.Work.length:Int)) rfl rfl rfl rfl (ww _ _) (ae (.int .i64 (IntKind.i64.wrap ((c40.1.Work.length:Int) + (c47.1.Work.length:Int)))) (ae (.bool (decide (0 < IntKind.i64.wrap ((c40.1.Work.length:Int) + (c47.1.Work.length:Int))))) (ae (.bool (decide (0 < IntKind.i64.wrap ((c40.1.Work.length:Int) + (c47.1.Work.length:Int))))) (aa ?_)))))))))
      rcases qq (decide (0 < IntKind.i64.wrap ((c40.1.Work.length:Int) + (c47.1.Work.length:Int)))) with hb6 | hb6
      ·rw [hb6]; first | replace hR:=kw hb6 hR | (try simp only [hb6,bb] at hR)
       refine aq rfl (aA (ak (ah qv (ae (.ptr 2 4) (ae (.bool c40.1.Over) (af rfl ?_))))))
       rcases qq (c40.1.Over) with hb7 | hb7
       ·rw [hb7]; first | replace hR:=kw hb7 hR | (try simp only [hb7,bb] at hR)
        refine ae (.ptr 3 4) (ae (.bool c47.1.Over) (ae (.bool c47.1.Over) (aa ?_)))
        rcases qq (c47.1.Over) with hb8 | hb8
        ·rw [hb8]; first | replace hR:=kw hb8 hR | (try simp only [hb8,bb] at hR)
         refine aq rfl (aA (ah qv (ae (.agg (TNet.c c18.1)) ?_)))
         obtain ⟨c79,hc79,hR⟩:=wx hR; try dsimp only at hR
         try dsimp only at hR
         refine av (r:=.agg (TNet.c c79)) rfl rfl rfl (f19_ok c18.1 _ hc79) rfl rfl (aw (v':=.ptr 4 0) (zj:=[(0,.box (TS.c picks2)),(1,.box (TNet.c c18.1)),(2,.box (TNet.c c40.1)),(3,.box (TNet.c c47.1)),(4,.box [.nils,.nils,.nils,.nils,.bool false])]) (zk:=5) rfl rfl rfl rfl rfl rfl rfl (ay (zj:=[(0,.box (TS.c picks2)),(1,.box (TNet.c c18.1)),(2,.box (TNet.c c40.1)),(3,.box (TNet.c c47.1)),(4,.box (TNet.c c79))]) (zk:=5) rfl rfl rfl rfl rfl (aa (ah qv ?_))))
         obtain ⟨c80,hc80,hR⟩:=wx hR; try dsimp only at hR
         try dsimp only at hR
         refine av (r:=.bool c80) rfl rfl rfl (f8_ok  _ hc80) rfl rfl (af rfl ?_)
         rcases qq (c80) with hb9 | hb9
         ·rw [hb9]; first | replace hR:=kw hb9 hR | (try simp only [hb9,bb] at hR)
          refine ag rfl rfl (ag rfl rfl (ag rfl rfl (ae (.bool false) (af rfl (ag rfl rfl (ag rfl rfl (ag rfl rfl (ae (.bool false) (af rfl (aa (aj ?_)))))))))))
          obtain rfl:=Option.some.inj hR
          exact ai [] (.inr rfl) rfl rfl rfl rfl
         ·rw [hb9]; first | replace hR:=kz hb9 hR | (try simp only [hb9,bb] at hR)
          refine ae (.agg (TNet.c c40.1)) (ae (.agg (TNet.c c47.1)) ?_)
          obtain ⟨c84,hc84,hR⟩:=wx hR; try dsimp only at hR
          try dsimp only at hR
          refine av (r:=.bool c84) rfl rfl rfl (f21_ok c40.1 c47.1 _ hc84) rfl rfl (ae (.bool c84) (af rfl ?_))
          rcases qq (c84) with hb10 | hb10
          ·rw [hb10]; first | replace hR:=kw hb10 hR | (try simp only [hb10,bb] at hR)
           refine ag rfl rfl (ag rfl rfl (ag rfl rfl (ae (.bool false) (af rfl (aa (aj ?_))))))
           obtain rfl:=Option.some.inj hR
           exact ai [] (.inr rfl) rfl rfl rfl rfl
          ·rw [hb10]; first | replace hR:=kz hb10 hR | (try simp only [hb10,bb] at hR)
           refine ae (.agg (TNet.c c40.1)) (ae (.agg (TNet.c c79)) ?_)
           obtain ⟨c89,hc89,hR⟩:=wx hR; try dsimp only at hR
           try dsimp only at hR
           refine av (r:=.bool c89) rfl rfl rfl (f21_ok c40.1 c79 _ hc89) rfl rfl (ae (.bool c89) (af rfl (aa (aj ?_))))
           obtain rfl:=Option.some.inj hR
           exact ai [] (.inr rfl) rfl rfl rfl rfl
        ·rw [hb8]; first | replace hR:=kz hb8 hR | (try simp only [hb8,bb] at hR)
         refine ap rfl (ah qv ?_)
         obtain ⟨c77,hc77,hR⟩:=wx hR; try dsimp only at hR
         try dsimp only at hR
         refine av (r:=.bool c77) rfl rfl rfl (f8_ok  _ hc77) rfl rfl (af rfl (aa (aj ?_)))
         obtain rfl:=Option.some.inj hR
         exact ai [] (.inr rfl) rfl rfl rfl rfl
       ·rw [hb7]; first | replace hR:=kz hb7 hR | (try simp only [hb7,bb] at hR)
        refine ag rfl rfl (ag rfl rfl (ae (.bool true) (aa (ap rfl (ah qv ?_)))))
        obtain ⟨c77,hc77,hR⟩:=wx hR; try dsimp only at hR
        try dsimp only at hR
        refine av (r:=.bool c77) rfl rfl rfl (f8_ok  _ hc77) rfl rfl (af rfl (aa (aj ?_)))
        obtain rfl:=Option.some.inj hR
        exact ai [] (.inr rfl) rfl rfl rfl rfl
      ·rw [hb6]; first | replace hR:=kz hb6 hR | (try simp only [hb6,bb] at hR)
       refine ap rfl (ah qv (af rfl (aa (aj ?_))))
       obtain rfl:=Option.some.inj hR
       exact ai [] (.inr rfl) rfl rfl rfl rfl
     ·rw [hb5]; first | replace hR:=kz hb5 hR | (try simp only [hb5,bb] at hR)
      iterate 8 refine ag rfl rfl ?_
      refine ae (.bool true) (aa (ap rfl (ah qv (af rfl (aa (aj ?_))))))
      obtain rfl:=Option.some.inj hR
      exact ai [] (.inr rfl) rfl rfl rfl rfl
    ·rw [hb4]; first | replace hR:=kz hb4 hR | (try simp only [hb4,bb] at hR)
     iterate 3 refine ag rfl rfl ?_
     refine ae (.bool true) ?_
     refine af rfl ?_
     iterate 8 refine ag rfl rfl ?_
     refine ae (.bool true) (aa (ap rfl (ah qv (af rfl (aa (aj ?_))))))
     obtain rfl:=Option.some.inj hR
     exact ai [] (.inr rfl) rfl rfl rfl rfl
   ·rw [hb3]; first | replace hR:=kz hb3 hR | (try simp only [hb3,bb] at hR)
    refine ap rfl (ah qv ?_)
    obtain ⟨c35,hc35,hR⟩:=wx hR; try dsimp only at hR
    try dsimp only at hR
    refine av (r:=.bool c35) rfl rfl rfl (f8_ok  _ hc35) rfl rfl (af rfl (aa (aj ?_)))
    obtain rfl:=Option.some.inj hR
    exact ai [] (.inr rfl) rfl rfl rfl rfl
  ·rw [hb2]; first | replace hR:=kz hb2 hR | (try simp only [hb2,bb] at hR)
   iterate 4 refine ag rfl rfl ?_
   refine ae (.bool true) (aa (ap rfl (ah qv ?_)))
   obtain ⟨c35,hc35,hR⟩:=wx hR; try dsimp only at hR
   try dsimp only at hR
   refine av (r:=.bool c35) rfl rfl rfl (f8_ok  _ hc35) rfl rfl (af rfl (aa (aj ?_)))
   obtain rfl:=Option.some.inj hR
   exact ai [] (.inr rfl) rfl rfl rfl rfl
end Go.Proofs.YtmfggjebbhdejaaGreat.Abs
namespace Go.Proofs.YtmfggjebbhdejaaGreat
open Go Go.ChangeShapes Go.WideShapes Go.ChangeAt Go.RowKit
namespace LeakEndRow
theorem own:ownKnob Tryz.prog.godebug = none:=by kernel_rfl
theorem laidOut:laidOutB Tryz.prog = true:=by kernel_rfl
set_option maxRecDepth 100000 in
theorem lifted (os:Os) (started:os.Started) (H:Type) (enc:TypeId × Value → H) :
  ReturnsInHanded {} Tryz.checked os 5 .any (Rows.leakEndSpec.pre6 enc Tryz.prog Tryz.f5 Rows.leakEndRow.domain false) (Rows.leakEndSpec.post enc Tryz.prog Tryz.f5 false true false false):=by
 refine returnsInHanded_of_change_sized (C:=Tryz.checked) own started (by kernel_rfl) Tryz.func5
  (ChangeSpec.witness6 (enc:=enc) (C:=Tryz.checked) false ⟨#[],#[.int .i64 0,.slice none 0 0,.agg #[.slice none 0 0,.slice none 0 0]],[]⟩ 8 (by kernel_rfl) (by kernel_rfl) (by kernel_rfl) (by kernel_rfl)) ?_
 intro W base args ds gs before hval0 hW hcnd hsz0 _
 have hG:Abs.GsIn W:=by intro x hx; simp [Abs.Gs] at hx
 have hval : ∀ (j:Nat) t v,Tryz.f5.params[j]? = some t → args[j]? = some v → Value.okWide Tryz.prog W .any base t v:=hval0
 have hW':=hW
 obtain ⟨p,q,hA0,hV,rfl,hfz,hnd⟩:=hW
 have hA:DataW.TrodAll enc Tryz.prog W 0 (fun _=>true) true Tryz.f5.params.toList args.toList ds p:=hA0
 rw [Tryz.params5] at hA hval
 obtain ⟨v0,vs0,d0,ds0,p0,q0,hargs,rfl,rfl,h0,r0⟩:=trodAll_cons hA
 obtain ⟨v1,vs1,d1,ds1,p1,q1,rfl,rfl,rfl,h1,r1⟩:=trodAll_cons r0
 obtain ⟨v2,vs2,d2,ds2,p2,q2,rfl,rfl,rfl,h2,r2⟩:=trodAll_cons r1
 obtain ⟨rfl,rfl,rfl⟩:=trodAll_nil r2
 obtain rfl:args = #[v0,v1,v2]:=by cases args; simp_all
 obtain ⟨rfl,rfl⟩:=trodVars_none hV
 obtain ⟨x0,rfl,rfl,rfl,w0⟩:=open_int Tryz.underlying3 (hval 0 3 v0 rfl rfl) h0
 obtain ⟨a1,len1,cap1,rfl⟩:=okWide_slice Tryz.underlying22 (hval 1 22 v1 rfl rfl)
 have k1:=h1
 have lt1 : ∀ x ∈ p1,x.block < W.heap.size:=by obtain ⟨m,hm⟩:=k1; exact DataW.trod_lt m _ _ _ hm
 obtain ⟨e1,T1,R1⟩:=Abs.open_arg1 (n:=8) (by kernel_rfl) h1 rfl
 obtain ⟨x1,hx1,ok1⟩:=Abs.of22 (n:=0) T1
 obtain rfl:=(List.cons.inj hx1).1
 obtain ⟨c2,rfl⟩:=Abs.okWide_arr Tryz.underlying71 (hval 2 71 v2 rfl rfl)
 have k2:=h2
 have lt2 : ∀ x ∈ p2,x.block < W.heap.size:=by obtain ⟨m,hm⟩:=k2; exact DataW.trod_lt m _ _ _ hm
 obtain ⟨q2,l2,o2,R2⟩:=Abs.open_arrT (nn:=2) Tryz.underlying71 (by kernel_rfl) (by kernel_rfl) (by kernel_rfl) h2
 obtain ⟨q2_0,q2_1,rfl⟩:=Abs.list2 l2
 obtain ⟨i2_0,ei2_0,wi2_0⟩:=Abs.of45 (n:=0) (o2 q2_0 (by simp))
 obtain rfl:=(List.cons.inj ei2_0).1
 obtain ⟨i2_1,ei2_1,wi2_1⟩:=Abs.of45 (n:=0) (o2 q2_1 (by simp))
 obtain rfl:=(List.cons.inj ei2_1).1
 clear hA0 hval0 hsz0
 refine (Abs.FnOk.run (Abs.f5_ok x0 x1 (⟨i2_0,i2_1⟩ : Abs.TS) true (Abs.leakEnd_true x0 x1 (⟨i2_0,i2_1⟩ : Abs.TS) (Abs.InK.of w0) ok1 ⟨wi2_0,wi2_1⟩)) hG (Abs.Reps.cons .int (Abs.Reps.cons R1 (Abs.Reps.cons R2 (Abs.Reps.nil ..))))).mono fun e W' ⟨he,bel⟩=>?_
 subst he
 exact ⟨_,rfl,_,_,_,[],_,[],hW',trodAll_mk1 (shut_bool Tryz.underlying4 _),(trodAll_cons_mk (shut_int Tryz.underlying3 w0) (trodAll_cons_mk (Below.trod laidOut (by kernel_rfl) (of_decide_eq_true (by kernel_rfl)) k1 bel lt1) (trodAll_cons_mk (Below.trod laidOut (by kernel_rfl) (of_decide_eq_true (by kernel_rfl)) k2 bel lt2) trodAll_mk0))),rfl,bel.frame _,fun h=>by cases h⟩
end LeakEndRow
theorem leakEnd_holds:Rows.LeakEndSaid :=
 OpenClaim.holds_of_wide 5 Tryz.f5 rfl rfl rfl rfl rfl rfl rfl ⟨rfl,rfl,rfl,rfl,rfl⟩ rfl rfl rfl rfl rfl (by kernel_rfl) Tryz.func5 (by kernel_rfl)
  (of_decide_eq_true (by kernel_rfl)) (by unfold Func.isWrapper; first | (rw [if_pos (by decide +kernel)]; kernel_rfl) | (rw [if_neg (by decide +kernel)]; exact ⟨rfl,rfl⟩))
  (fun os started H enc _=>LeakEndRow.lifted os started H enc)
end Go.Proofs.YtmfggjebbhdejaaGreat
