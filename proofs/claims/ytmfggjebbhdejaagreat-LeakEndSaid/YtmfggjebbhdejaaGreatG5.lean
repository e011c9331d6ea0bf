/- A part of the proof: W1. -/
import Derived.Test.YtmfggjebbhdejaaGreatG4
set_option linter.unusedVariables false
set_option linter.unusedSimpArgs false
set_option maxRecDepth 10000
set_option maxHeartbeats 4000000
namespace Go.Proofs.YtmfggjebbhdejaaGreat.Abs
open Go
theorem f11_ok (n0:Int) (R:TNet × Int) (hR:F11 n0 = some R):FnOk Tryz.prog 11 [.int .i64 n0] [] 0 (.tup [.agg (TNet.c R.1),.int .i64 R.2]) [] 0:=by
 refine FnOk.wk i11 rfl rfl ?_
 unfold F11 at hR
 try dsimp only at hR
 change WK _ _ _ [ac11] _ ⟨[(0,.int .i64 n0)],[],0⟩
 unfold ac11
 refine ah qv (aw (v':=.ptr 0 0) (zj:=[(0,.box [.nils,.nils,.nils,.nils,.bool false])]) (zk:=1) rfl rfl rfl rfl rfl rfl rfl (af rfl (aa (ak (ah qv (af rfl (ae (.bool (decide (n0 < 1))) (af rfl ?_))))))))
 rcases qq (decide (n0 < 1)) with hb1 | hb1
 ·rw [hb1]; first | replace hR:=kw hb1 hR | (try simp only [hb1,bb] at hR)
  refine af rfl ?_
  iterate 2 refine ae (.bool (decide (6 < n0))) ?_
  refine aa ?_
  rcases qq (decide (6 < n0)) with hb2 | hb2
  ·rw [hb2]; first | replace hR:=kw hb2 hR | (try simp only [hb2,bb] at hR)
   refine aq rfl (aA (ak (aE qv (aG rfl ?_))))
   obtain ⟨hg3,hg3_,hR⟩:=gd hR; try dsimp only at hR
   obtain ⟨hg4,hg4_,hR⟩:=gd hR; try dsimp only at hR
   refine bj (v':=.own 1 1 0 (List.replicate n0.toNat ((⟨([]:List qj)⟩ : qk):qk)).length) (zj:=[(0,.box [.nils,.nils,.nils,.nils,.bool false]),(1,.row 1 36 ((List.replicate n0.toNat ((⟨([]:List qj)⟩ : qk):qk)).map qk.c))]) (zk:=2) rfl rfl rfl (fq (c:=qk.c) (x0:=(⟨([]:List qj)⟩ : qk)) (n:=n0.toNat) (by omega) (by omega) rfl (by omega) (by omega)) (by simp) rfl rfl (aG rfl (bj (v':=.own 2 1 0 (List.replicate n0.toNat (([]:List qj):List qj)).length) (zj:=[(0,.box [.nils,.nils,.nils,.nils,.bool false]),(1,.row 1 36 ((List.replicate n0.toNat ((⟨([]:List qj)⟩ : qk):qk)).map qk.c)),(2,.row 1 34 ((List.replicate n0.toNat (([]:List qj):List qj)).map (wv 10 qj.c)))]) (zk:=3) rfl rfl rfl (fq (c:=(wv 10 qj.c)) (x0:=([]:List qj)) (n:=n0.toNat) (by omega) (by omega) rfl (by omega) (by omega)) (by simp) rfl rfl (au (.agg [.own 1 1 0 (List.replicate n0.toNat ((⟨([]:List qj)⟩ : qk):qk)).length,.own 2 1 0 (List.replicate n0.toNat (([]:List qj):List qj)).length,.nils,.nils,.bool false]) (aV (zj:=[(0,.box [.own 1 1 0 (List.replicate n0.toNat ((⟨([]:List qj)⟩ : qk):qk)).length,.own 2 1 0 (List.replicate n0.toNat (([]:List qj):List qj)).length,.nils,.nils,.bool false]),(1,.row 1 36 ((List.replicate n0.toNat ((⟨([]:List qj)⟩ : qk):qk)).map qk.c)),(2,.row 1 34 ((List.replicate n0.toNat (([]:List qj):List qj)).map (wv 10 qj.c)))]) (zk:=3) rfl rfl rfl rfl rfl (aG rfl (aH rfl (aj ?_)))))))
   obtain rfl:=Option.some.inj hR
   exact cL [1,2] (.inr rfl) rfl rfl (qz (bG (qz (aN rfl rfl) (qz (aN rfl rfl) (qz rfl (qz rfl (qz rfl qw)))))) (qz rfl qw)) (.tup (.cons (.agg (.cons .refl (.cons .refl (.cons .nil (.cons .nil .refl))))) .refl))
  ·rw [hb2]; first | replace hR:=kz hb2 hR | (try simp only [hb2,bb] at hR)
   refine ap rfl (ah qv (ae (.agg [.nils,.nils,.nils,.nils,.bool false]) (ay (zj:=[(0,.box [.nils,.nils,.nils,.nils,.bool false])]) (zk:=1) rfl rfl rfl rfl rfl (af rfl (aa (aj ?_))))))
   obtain rfl:=Option.some.inj hR
   exact cL [] (.inr rfl) rfl rfl rfl (.tup (.cons (.agg (.cons .nil (.cons .nil (.cons .nil (.cons .nil .refl))))) .refl))
 ·rw [hb1]; first | replace hR:=kz hb1 hR | (try simp only [hb1,bb] at hR)
  refine ag rfl rfl (ag rfl rfl (ae (.bool true) (aa (ap rfl (ah qv (ae (.agg [.nils,.nils,.nils,.nils,.bool false]) (ay (zj:=[(0,.box [.nils,.nils,.nils,.nils,.bool false])]) (zk:=1) rfl rfl rfl rfl rfl (af rfl (aa (aj ?_))))))))))
  obtain rfl:=Option.some.inj hR
  exact cL [] (.inr rfl) rfl rfl rfl (.tup (.cons (.agg (.cons .nil (.cons .nil (.cons .nil (.cons .nil .refl))))) .refl))
theorem f13_ok (a0:TAct) (R:Bool) (hR:F13 a0 = some R):FnOk Tryz.prog 13 [.agg (TAct.c a0)] [] 0 (.bool R) [] 0:=by
 refine FnOk.wk i13 rfl rfl ?_
 unfold F13 at hR
 try dsimp only at hR
 change WK _ _ _ [ac13] _ ⟨[(0,.agg (TAct.c a0))],[],0⟩
 unfold ac13
 refine ah qv (aw (v':=.ptr 0 0) (zj:=[(0,.box (TAct.c a0))]) (zk:=1) rfl rfl rfl rfl rfl rfl rfl (af rfl (aa (ak (ah qv (ae (.ptr 0 3) (ae (.ptr 0 12) (ae (.ro 2 (a0.C.Hops.map THop.c)) (ar (v':=.int .i64 (a0.C.Hops.length:Int)) rfl rfl rfl rfl (ww _ _) (ae (.bool (decide (20 < (a0.C.Hops.length:Int)))) (af rfl ?_)))))))))))
 rcases qq (decide (20 < (a0.C.Hops.length:Int))) with hb1 | hb1
 ·rw [hb1]; first | replace hR:=kw hb1 hR | (try simp only [hb1,bb] at hR)
  refine ae (.ptr 0 13) ?_
  refine ae (.ro 12 (a0.Map.map zx.c)) ?_
  refine ar (v':=.int .i64 (a0.Map.length:Int)) rfl rfl rfl rfl (ww _ _) ?_
  iterate 2 refine ae (.bool (decide (8 < (a0.Map.length:Int)))) ?_
  refine aa ?_
  rcases qq (decide (8 < (a0.Map.length:Int))) with hb2 | hb2
  ·rw [hb2]; first | replace hR:=kw hb2 hR | (try simp only [hb2,bb] at hR)
   refine aq rfl (aA (ak (ah qv (af rfl (aa ?_)))))
   refine bq (t:=11) rfl (by simp) (fun ge3=>?_)
   rw [List.length_map] at ge3
   generalize gi3:F13l1 a0.Map = gh3 at hR
   refine aY (fun k s=>∃ (i3:Nat),i3 ≤ a0.Map.length ∧ k = a0.Map.length - i3 ∧ F13l1 (a0.Map.drop i3) = gh3 ∧ s = ⟨[(1,.ptr 0 0),(3,.int .i64 (i3:Int))],[(0,.box (TAct.c a0))],1⟩) a0.Map.length (by refine ⟨_,?_,0,(by omega),rfl,gi3,rfl⟩; exact Conv.keep [0] [] [1,3] rfl rfl (qx rfl rfl (qx rfl rfl qy)) rfl rfl) ?_
   rintro _ _ ⟨i3,gj3,rfl,gg3,rfl⟩ gb3 gd3 gk3 ga3 gc3 gf3
   refine ak (ah qv (af rfl (ae (.ptr 0 13) (ae (.ro 12 (a0.Map.map zx.c)) (ar (v':=.int .i64 (a0.Map.length:Int)) rfl rfl rfl rfl (ww _ _) (ae (.bool (decide ((i3:Int) < (a0.Map.length:Int)))) (aa ?_)))))))
   rcases qq (decide ((i3:Int) < (a0.Map.length:Int))) with hb4 | hb4
   ·rw [hb4]
    rw [bc hb4,F13l1] at gg3
    refine aq rfl (aT ?_)
    refine aU (gc3 _ ?_)
    subst gg3
    replace hR:=cf hR; try dsimp only at hR
    refine ah qv (af rfl (aa (aj ?_)))
    obtain rfl:=Option.some.inj hR
    exact ai [] (.inr rfl) rfl rfl rfl rfl
   ·rw [hb4]
    obtain ⟨x3,hx3,hd3,hlt3⟩:=aR hb4
    rw [hd3,F13l1] at gg3
    refine ap rfl (aA (ak ?_))
    refine aI (fun _ hK5=>?_)
    refine ah qv (ae (.ptr 0 13) (ae (.ro 12 (a0.Map.map zx.c)) (af rfl (aZ (c:=zx.c) (x:=x3) rfl rfl rfl (Int.natCast_nonneg _) hx3 (ae (.rptr [.ro 6 (x3.Listf.map zv.c),.int .i64 x3.MKind,.int .i64 x3.MLow,.int .i64 x3.MHigh,.ro 1 (x3.MTags.map bI),.int .i64 x3.SCost,.int .i64 x3.SPlus,.int .i64 x3.SKind,.bool x3.SetTag,.int .u32 x3.STag]) (ae (.ro 6 (x3.Listf.map zv.c)) (ar (v':=.int .i64 (x3.Listf.length:Int)) rfl rfl rfl rfl (ww _ _) (ae (.bool (decide (8 < (x3.Listf.length:Int)))) (af rfl ?_)))))))))
    rcases qq (decide (8 < (x3.Listf.length:Int))) with hb6 | hb6
    ·rw [hb6]; try simp only [hb6,bb] at gg3
     refine ae (.ptr 0 13) (ae (.ro 12 (a0.Map.map zx.c)) (af rfl (aZ (c:=zx.c) (x:=x3) rfl rfl rfl (Int.natCast_nonneg _) hx3 (ae (.rptr [.ro 1 (x3.MTags.map bI),.int .i64 x3.SCost,.int .i64 x3.SPlus,.int .i64 x3.SKind,.bool x3.SetTag,.int .u32 x3.STag]) (ae (.ro 1 (x3.MTags.map bI)) (ar (v':=.int .i64 (x3.MTags.length:Int)) rfl rfl rfl rfl (ww _ _) (ae (.bool (decide (8 < (x3.MTags.length:Int)))) (ae (.bool (decide (8 < (x3.MTags.length:Int)))) (aa ?_)))))))))
     rcases qq (decide (8 < (x3.MTags.length:Int))) with hb7 | hb7
     ·rw [hb7]; try simp only [hb7,bb] at gg3
      refine aq rfl (aA ?_)
      refine aB (am (hK5 _ ?_))
      refine az qv (af rfl (ar (v':=.int .i64 ((i3 + 1:Nat):Int)) rfl rfl rfl rfl (congrArg (PVal.int .i64) (aO hlt3 ge3)) (af rfl (aa ?_))))
      refine aB (am ?_)
      refine ga3 _ (a0.Map.length - (i3 + 1)) _ (by omega) ?_ ⟨i3 + 1,(by omega),rfl,gg3,rfl⟩
      exact Conv.keep [0] [] [1,3] rfl rfl (qx rfl rfl (qx rfl rfl qy)) rfl rfl
     ·rw [hb7]; try simp only [hb7,bb] at gg3
      refine ap rfl (ah qv (af rfl (aa (aj (aS ?_)))))
      refine aS (gf3 _ _ ?_)
      subst gg3
      first | replace hR:=dC hR | replace hR:=cf hR | replace hR:=be hR
      try dsimp only at hR
      obtain rfl:=Option.some.inj hR
      exact ai [] (.inr rfl) rfl rfl rfl rfl
    ·rw [hb6]; try simp only [hb6,bb] at gg3
     iterate 8 refine ag rfl rfl ?_
     refine ae (.bool true) (aa (ap rfl (ah qv (af rfl (aa (aj (aS ?_)))))))
     refine aS (gf3 _ _ ?_)
     subst gg3
     first | replace hR:=dC hR | replace hR:=cf hR | replace hR:=be hR
     try dsimp only at hR
     obtain rfl:=Option.some.inj hR
     exact ai [] (.inr rfl) rfl rfl rfl rfl
  ·rw [hb2]; first | replace hR:=kz hb2 hR | (try simp only [hb2,bb] at hR)
   refine ap rfl (ah qv (af rfl (aa (aj ?_))))
   obtain rfl:=Option.some.inj hR
   exact ai [] (.inr rfl) rfl rfl rfl rfl
 ·rw [hb1]; first | replace hR:=kz hb1 hR | (try simp only [hb1,bb] at hR)
  iterate 4 refine ag rfl rfl ?_
  refine ae (.bool true) (aa (ap rfl (ah qv (af rfl (aa (aj ?_))))))
  obtain rfl:=Option.some.inj hR
  exact ai [] (.inr rfl) rfl rfl rfl rfl
theorem f41_ok (n0:TNet) (R:TNet) (hR:F41 n0 = some R):FnOk Tryz.prog 41 [.agg (TNet.c n0)] [] 0 (.ptr 0 0) [(0,.box [.own 1 1 0 R.T.length,.own 2 1 0 R.Sel.length,.own 3 3 0 R.L.length,.own 4 3 0 R.Work.length,.bool R.Over]),(1,.row 1 36 (R.T.map qk.c)),(2,.row 1 34 (R.Sel.map (wv 10 qj.c))),(3,.row 3 84 (R.L.map zz.c)),(4,.row 3 108 (R.Work.map zw.c))] 5:=by
 refine FnOk.wk i41 rfl rfl ?_
 unfold F41 at hR
 try dsimp only at hR
 change WK _ _ _ [ac41] _ ⟨[(0,.agg (TNet.c n0))],[],0⟩
 unfold ac41
 refine ah qv (aw (v':=.ptr 0 0) (zj:=[(0,.box (TNet.c n0))]) (zk:=1) rfl rfl rfl rfl rfl rfl rfl (af rfl (aa (ak (aE qv (au (.ptr 0 0) (au (.ro 1 (n0.T.map qk.c)) (aF (v':=.int .i64 (n0.T.length:Int)) rfl rfl rfl rfl (ww _ _) ?_))))))))
 obtain ⟨hg1,hg1_,hR⟩:=gd hR; try dsimp only at hR
 obtain ⟨hg2,hg2_,hR⟩:=gd hR; try dsimp only at hR
 refine bj (v':=.own 1 1 0 (List.replicate n0.T.length ((⟨([]:List qj)⟩ : qk):qk)).length) (zj:=[(0,.box (TNet.c n0)),(1,.row 1 36 ((List.replicate n0.T.length ((⟨([]:List qj)⟩ : qk):qk)).map qk.c))]) (zk:=2) rfl rfl rfl (fq (c:=qk.c) (x0:=(⟨([]:List qj)⟩ : qk)) (n:=n0.T.length) (by omega) (by omega) rfl (by omega) (by omega)) (by simp) rfl rfl (au (.ptr 0 1) (au (.ro 1 (n0.Sel.map (wv 10 qj.c))) (aF (v':=.int .i64 (n0.Sel.length:Int)) rfl rfl rfl rfl (ww _ _) ?_)))
 obtain ⟨hg3,hg3_,hR⟩:=gd hR; try dsimp only at hR
 obtain ⟨hg4,hg4_,hR⟩:=gd hR; try dsimp only at hR
 refine bj (v':=.own 2 1 0 (List.replicate n0.Sel.length (([]:List qj):List qj)).length) (zj:=[(0,.box (TNet.c n0)),(1,.row 1 36 ((List.replicate n0.T.length ((⟨([]:List qj)⟩ : qk):qk)).map qk.c)),(2,.row 1 34 ((List.replicate n0.Sel.length (([]:List qj):List qj)).map (wv 10 qj.c)))]) (zk:=3) rfl rfl rfl (fq (c:=(wv 10 qj.c)) (x0:=([]:List qj)) (n:=n0.Sel.length) (by omega) (by omega) rfl (by omega) (by omega)) (by simp) rfl rfl (au (.ptr 0 2) (au (.ro 3 (n0.L.map zz.c)) ?_))
 obtain ⟨hg5,hg5_,hR⟩:=gd hR; try dsimp only at hR
 refine fx (r':=.own 3 3 0 n0.L.length) (zj:=[(0,.box (TNet.c n0)),(1,.row 1 36 ((List.replicate n0.T.length ((⟨([]:List qj)⟩ : qk):qk)).map qk.c)),(2,.row 1 34 ((List.replicate n0.Sel.length (([]:List qj):List qj)).map (wv 10 qj.c))),(3,.row 3 84 (n0.L.map zz.c))]) (zk:=4) [] [] rfl rfl rfl rfl rfl rfl (cS (c:=zz.c) qv i82 n0.L (by decide) (by omega) (by omega)) (.inl rfl) rfl rfl rfl (au (.ptr 0 3) (au (.ro 3 (n0.Work.map zw.c)) ?_))
 obtain ⟨hg6,hg6_,hR⟩:=gd hR; try dsimp only at hR
 refine fx (r':=.own 4 3 0 n0.Work.length) (zj:=[(0,.box (TNet.c n0)),(1,.row 1 36 ((List.replicate n0.T.length ((⟨([]:List qj)⟩ : qk):qk)).map qk.c)),(2,.row 1 34 ((List.replicate n0.Sel.length (([]:List qj):List qj)).map (wv 10 qj.c))),(3,.row 3 84 (n0.L.map zz.c)),(4,.row 3 108 (n0.Work.map zw.c))]) (zk:=5) [] [] rfl rfl rfl rfl rfl rfl (cS (c:=zw.c) qv i83 n0.Work (by decide) (by omega) (by omega)) (.inl rfl) rfl rfl rfl (au (.ptr 0 4) (au (.bool n0.Over) (au (.agg [.own 1 1 0 (List.replicate n0.T.length ((⟨([]:List qj)⟩ : qk):qk)).length,.own 2 1 0 (List.replicate n0.Sel.length (([]:List qj):List qj)).length,.own 3 3 0 n0.L.length,.own 4 3 0 n0.Work.length,.bool n0.Over]) (bj (v':=.ptr 5 0) (zj:=[(0,.box (TNet.c n0)),(1,.row 1 36 ((List.replicate n0.T.length ((⟨([]:List qj)⟩ : qk):qk)).map qk.c)),(2,.row 1 34 ((List.replicate n0.Sel.length (([]:List qj):List qj)).map (wv 10 qj.c))),(3,.row 3 84 (n0.L.map zz.c)),(4,.row 3 108 (n0.Work.map zw.c)),(5,.box [.own 1 1 0 (List.replicate n0.T.length ((⟨([]:List qj)⟩ : qk):qk)).length,.own 2 1 0 (List.replicate n0.Sel.length (([]:List qj):List qj)).length,.own 3 3 0 n0.L.length,.own 4 3 0 n0.Work.length,.bool n0.Over])]) (zk:=6) rfl rfl rfl rfl rfl rfl rfl (aG rfl (aH rfl (ak (aE qv (aG rfl (au (.ptr 5 0) (au (.ptr 5 0) (au (.own 1 1 0 (List.replicate n0.T.length ((⟨([]:List qj)⟩ : qk):qk)).length) (au (.ptr 0 0) ?_)))))))))))))
 refine au (.ro 1 (n0.T.map qk.c)) ?_
 obtain ⟨hg7,hg7_,hR⟩:=gd hR; try dsimp only at hR
 refine bj (v':=.int .i64 ((n0.T.take (List.replicate n0.T.length ((⟨([]:List qj)⟩ : qk):qk)).length).length:Int)) (zj:=[(0,.box (TNet.c n0)),(1,.row 1 36 ((gZ (List.replicate n0.T.length ((⟨([]:List qj)⟩ : qk):qk)) n0.T).map qk.c)),(2,.row 1 34 ((List.replicate n0.Sel.length (([]:List qj):List qj)).map (wv 10 qj.c))),(3,.row 3 84 (n0.L.map zz.c)),(4,.row 3 108 (n0.Work.map zw.c)),(5,.box [.own 1 1 0 (List.replicate n0.T.length ((⟨([]:List qj)⟩ : qk):qk)).length,.own 2 1 0 (List.replicate n0.Sel.length (([]:List qj):List qj)).length,.own 3 3 0 n0.L.length,.own 4 3 0 n0.Work.length,.bool n0.Over])]) (zk:=6) rfl rfl rfl (g9 (c:=qk.c) (L:=(List.replicate n0.T.length ((⟨([]:List qj)⟩ : qk):qk))) (X:=n0.T) rfl rfl (by omega)) rfl rfl rfl (aH rfl (ak (aE qv (aG rfl (au (.ptr 5 0) (au (.ptr 5 1) (au (.own 2 1 0 (List.replicate n0.Sel.length (([]:List qj):List qj)).length) (au (.ptr 0 1) (au (.ro 1 (n0.Sel.map (wv 10 qj.c))) ?_)))))))))
 obtain ⟨hg8,hg8_,hR⟩:=gd hR; try dsimp only at hR
 refine bj (v':=.int .i64 ((n0.Sel.take (List.replicate n0.Sel.length (([]:List qj):List qj)).length).length:Int)) (zj:=[(0,.box (TNet.c n0)),(1,.row 1 36 ((gZ (List.replicate n0.T.length ((⟨([]:List qj)⟩ : qk):qk)) n0.T).map qk.c)),(2,.row 1 34 ((gZ (List.replicate n0.Sel.length (([]:List qj):List qj)) n0.Sel).map (wv 10 qj.c))),(3,.row 3 84 (n0.L.map zz.c)),(4,.row 3 108 (n0.Work.map zw.c)),(5,.box [.own 1 1 0 (List.replicate n0.T.length ((⟨([]:List qj)⟩ : qk):qk)).length,.own 2 1 0 (List.replicate n0.Sel.length (([]:List qj):List qj)).length,.own 3 3 0 n0.L.length,.own 4 3 0 n0.Work.length,.bool n0.Over])]) (zk:=6) rfl rfl rfl (g9 (c:=(wv 10 qj.c)) (L:=(List.replicate n0.Sel.length (([]:List qj):List qj))) (X:=n0.Sel) rfl rfl (by omega)) rfl rfl rfl (aH rfl (ah qv (af rfl (af rfl (aa (aj ?_))))))
 obtain rfl:=Option.some.inj hR
 exact RetQ.ret [5,1,2,3,4] [] (.inr rfl) rfl rfl rfl (bO rfl (bN (qz (br rfl (by simp [cpy_len])) (qz (br rfl (by simp [cpy_len])) (qz rfl (qz rfl (qz rfl qw)))))) (bO rfl rfl (bO rfl rfl (bO rfl rfl (bO rfl rfl subR_nil))))) rfl .refl rfl
theorem f64_ok (n0:TNet) (at1:Int) (R:Bool) (hR:F64 n0 at1 = some R):FnOk Tryz.prog 64 [.agg (TNet.c n0),.int .i64 at1] [] 0 (.bool R) [] 0:=by
 refine FnOk.wk i64 rfl rfl ?_
 unfold F64 at hR
 try dsimp only at hR
 change WK _ _ _ [ac64] _ ⟨[(0,.agg (TNet.c n0)),(1,.int .i64 at1)],[],0⟩
 unfold ac64
 refine ah qv (aw (v':=.ptr 0 0) (zj:=[(0,.box (TNet.c n0))]) (zk:=1) rfl rfl rfl rfl rfl rfl rfl (af rfl (aa (ah qv (af rfl (ae (.bool (decide (0 ≤ at1))) (af rfl ?_)))))))
 rcases qq (decide (0 ≤ at1)) with hb1 | hb1
 ·rw [hb1]; first | replace hR:=kw hb1 hR | (try simp only [hb1,bb] at hR)
  iterate 5 refine ag rfl rfl ?_
  refine ae (.bool false) (af rfl (aa (aj ?_)))
  obtain rfl:=Option.some.inj hR
  exact ai [] (.inr rfl) rfl rfl rfl rfl
 ·rw [hb1]; first | replace hR:=kz hb1 hR | (try simp only [hb1,bb] at hR)
  refine af rfl (ae (.ptr 0 0) (ae (.ro 1 (n0.T.map qk.c)) (ar (v':=.int .i64 (n0.T.length:Int)) rfl rfl rfl rfl (ww _ _) (ae (.bool (decide (at1 < (n0.T.length:Int)))) (ae (.bool (decide (at1 < (n0.T.length:Int)))) (af rfl (aa (aj ?_))))))))
  obtain rfl:=Option.some.inj hR
  exact ai [] (.inr rfl) rfl rfl rfl rfl
theorem f138_ok (n0:Int) (low1:Int) (high2:Int) (R:Bool) (hR:F138 n0 low1 high2 = R):FnOk Tryz.prog 138 [.int .i64 n0,.int .i64 low1,.int .i64 high2] [] 0 (.bool R) [] 0:=by
 refine FnOk.wk i138 rfl rfl ?_
 unfold F138 at hR
 change WK _ _ _ [ac138] _ ⟨[(0,.int .i64 n0),(1,.int .i64 low1),(2,.int .i64 high2)],[],0⟩
 unfold ac138
 refine ah qv (af rfl (aa (ah qv (af rfl (af rfl (ae (.bool (decide (low1 ≤ n0))) (af rfl ?_)))))))
 rcases qq (decide (low1 ≤ n0)) with hb1 | hb1
 ·rw [hb1]; try simp only [hb1,bb] at hR
  refine ag rfl rfl (ag rfl rfl (ag rfl rfl (ae (.bool false) (af rfl (aa (aj ?_))))))
  subst hR
  exact ai [] (.inr rfl) rfl rfl rfl rfl
 ·rw [hb1]; try simp only [hb1,bb] at hR
  refine af rfl (af rfl (ae (.bool (decide (n0 ≤ high2))) (ae (.bool (decide (n0 ≤ high2))) (af rfl (aa (aj ?_))))))
  subst hR
  exact ai [] (.inr rfl) rfl rfl rfl rfl
theorem f151_ok (n0:Int) (R:Bool) (hR:F151 n0 = R):FnOk Tryz.prog 151 [.int .i64 n0] [] 0 (.bool R) [] 0:=by
 refine FnOk.wk i151 rfl rfl ?_
 unfold F151 at hR
 change WK _ _ _ [ac151] _ ⟨[(0,.int .i64 n0)],[],0⟩
 unfold ac151
 refine ah qv (af rfl (aa (ah qv (af rfl (ae (.bool (decide (0 ≤ n0))) (af rfl ?_))))))
 rcases qq (decide (0 ≤ n0)) with hb1 | hb1
 ·rw [hb1]; try simp only [hb1,bb] at hR
  refine ag rfl rfl (ag rfl rfl (ae (.bool false) (af rfl (aa (aj ?_)))))
  subst hR
  exact ai [] (.inr rfl) rfl rfl rfl rfl
 ·rw [hb1]; try simp only [hb1,bb] at hR
  refine af rfl (ae (.bool (decide (n0 ≤ 32))) (ae (.bool (decide (n0 ≤ 32))) (af rfl (aa (aj ?_)))))
  subst hR
  exact ai [] (.inr rfl) rfl rfl rfl rfl
theorem f152_ok (n0:Int) (R:Int) (hR:F152 n0 = R):FnOk Tryz.prog 152 [.int .i64 n0] [] 0 (.int .u32 R) [] 0:=by
 refine FnOk.wk i152 rfl rfl ?_
 unfold F152 at hR
 change WK _ _ _ [ac152] _ ⟨[(0,.int .i64 n0)],[],0⟩
 unfold ac152
 refine ah qv (af rfl (aa (ah qv (af rfl (ae (.int .i64 (max_ n0 0)) (ae (.int .i64 (min_ (max_ n0 0) 32)) (af rfl (aa (ah qv (af rfl (ae (.int .i64 (IntKind.i64.wrap (32 - (min_ (max_ n0 0) 32)))) (GX.shl rfl rfl rfl (by ((try simp only [decide_eq_true_eq,decide_eq_false_iff_not,Bool.not_eq_true,Bool.not_eq_false] at *); first | omega | (rw [aW (by omega) (by omega)]; omega) | (unfold min_ max_; (repeat' split) <;> first | omega | (rw [aW (by omega) (by omega)]; omega)))) (ae (.int .u32 (IntKind.u32.wrap (shl_ .u64 4294967295 (IntKind.i64.wrap (32 - (min_ (max_ n0 0) 32)))))) ?_)))))))))))))
 refine af rfl (aa (aj ?_))
 subst hR
 exact ai [] (.inr rfl) rfl rfl rfl rfl
theorem f124_ok (p0:zy) (R:Bool) (hR:F124 p0 = R):FnOk Tryz.prog 124 [.agg (zy.c p0)] [] 0 (.bool R) [] 0:=by
 refine FnOk.wk i124 rfl rfl ?_
 unfold F124 at hR
 change WK _ _ _ [ac124] _ ⟨[(0,.agg (zy.c p0))],[],0⟩
 unfold ac124
 refine ah qv (aw (v':=.ptr 0 0) (zj:=[(0,.box (zy.c p0))]) (zk:=1) rfl rfl rfl rfl rfl rfl rfl (af rfl (aa (ak (aE qv (au (.ptr 0 1) (au (.int .i64 p0.N) ?_)))))))
 generalize hc5:F151 p0.N = c5 at hR
 try dsimp only at hR
 refine aL (r:=.bool c5) rfl rfl rfl (f151_ok p0.N _ hc5) rfl rfl (aG rfl ?_)
 rcases qq (c5) with hb1 | hb1
 ·rw [hb1]; try simp only [hb1,bb] at hR
  iterate 7 refine bE rfl rfl ?_
  refine au (.bool false) (aG rfl (aH rfl (aj ?_)))
  subst hR
  exact ai [] (.inr rfl) rfl rfl rfl rfl
 ·rw [hb1]; try simp only [hb1,bb] at hR
  refine au (.ptr 0 0) (au (.int .u32 p0.A) (au (.ptr 0 1) (au (.int .i64 p0.N) ?_)))
  generalize hc11:F152 p0.N = c11 at hR
  try dsimp only at hR
  refine aL (r:=.int .u32 c11) rfl rfl rfl (f152_ok p0.N _ hc11) rfl rfl (au (.int .u32 (dQ .u32 p0.A c11)) (au (.bool (decide (dQ .u32 p0.A c11 = 0))) (au (.bool (decide (dQ .u32 p0.A c11 = 0))) (aG rfl (aH rfl (aj ?_))))))
  subst hR
  exact ai [] (.inr rfl) rfl rfl rfl rfl
theorem f161_ok (x0:zv) (R:Bool) (hR:F161 x0 = R):FnOk Tryz.prog 161 [.agg (zv.c x0)] [] 0 (.bool R) [] 0:=by
 refine FnOk.wk i161 rfl rfl ?_
 unfold F161 at hR
 change WK _ _ _ [ac161] _ ⟨[(0,.agg (zv.c x0))],[],0⟩
 unfold ac161
 refine ah qv (aw (v':=.ptr 0 0) (zj:=[(0,.box (zv.c x0))]) (zk:=1) rfl rfl rfl rfl rfl rfl rfl (af rfl (aa (ak (ah qv (ae (.ptr 0 0) (ae (.int .i64 x0.Seq) (ae (.bool (decide (x0.Seq < 1))) (af rfl ?_)))))))))
 rcases qq (decide (x0.Seq < 1)) with hb1 | hb1
 ·rw [hb1]; try simp only [hb1,bb] at hR
  refine ae (.ptr 0 0) ?_
  refine ae (.int .i64 x0.Seq) ?_
  iterate 2 refine ae (.bool (decide (65535 < x0.Seq))) ?_
  refine af rfl ?_
  rcases qq (decide (65535 < x0.Seq)) with hb2 | hb2
  ·rw [hb2]; try simp only [hb2,bb] at hR
   refine ae (.ptr 0 2) (ae (.agg (zy.c x0.P)) ?_)
   generalize hc16:F124 x0.P = c16 at hR
   try dsimp only at hR
   refine av (r:=.bool c16) rfl rfl rfl (f124_ok x0.P _ hc16) rfl rfl (ae (.bool (!c16)) (ae (.bool (!c16)) (aa ?_)))
   rcases qq (c16) with hb3 | hb3
   ·rw [hb3]; try simp only [hb3,bb] at hR
    refine ap rfl (ah qv (af rfl (aa (aj ?_))))
    subst hR
    exact ai [] (.inr rfl) rfl rfl rfl rfl
   ·rw [hb3]; try simp only [hb3,bb] at hR
    refine aq rfl (aA (ah qv (ae (.ptr 0 4) (ae (.int .i64 x0.Ge) (ae (.bool (decide (x0.Ge = 0))) (af rfl ?_))))))
    rcases qq (decide (x0.Ge = 0)) with hb4 | hb4
    ·rw [hb4]; try simp only [hb4,bb] at hR
     refine ae (.ptr 0 4) (ae (.int .i64 x0.Ge) (ae (.ptr 0 2) (ae (.ptr 0 3) (ae (.int .i64 x0.P.N) (ae (.bool (decide (x0.P.N < x0.Ge))) (af rfl ?_))))))
     rcases qq (decide (x0.P.N < x0.Ge)) with hb5 | hb5
     ·rw [hb5]; try simp only [hb5,bb] at hR
      refine ag rfl rfl (ag rfl rfl (ag rfl rfl (ae (.bool false) (ae (.bool false) (af rfl (aa (ah qv (ae (.ptr 0 5) (ae (.int .i64 x0.Le) (ae (.bool (decide (x0.Le = 0))) (af rfl ?_)))))))))))
      rcases qq (decide (x0.Le = 0)) with hb6 | hb6
      ·rw [hb6]; try simp only [hb6,bb] at hR
       refine ae (.ptr 0 5) (ae (.int .i64 x0.Le) (ae (.ptr 0 4) (ae (.int .i64 x0.Ge) (ae (.ptr 0 2) (ae (.ptr 0 3) (ae (.int .i64 x0.P.N) (ae (.int .i64 (max_ x0.Ge x0.P.N)) (ae (.bool (decide (max_ x0.Ge x0.P.N ≤ x0.Le))) (af rfl ?_)))))))))
       rcases qq (decide (max_ x0.Ge x0.P.N ≤ x0.Le)) with hb7 | hb7
       ·rw [hb7]; try simp only [hb7,bb] at hR
        refine ag rfl rfl (ag rfl rfl (ag rfl rfl (ae (.bool false) (ae (.bool false) (af rfl (aa (ah qv (af rfl (af rfl (ag rfl rfl (ae (.bool false) (af rfl (aa ?_)))))))))))))
        refine aj ?_
        subst hR
        exact ai [] (.inr rfl) rfl rfl rfl rfl
       ·rw [hb7]; try simp only [hb7,bb] at hR
        refine ae (.ptr 0 5) (ae (.int .i64 x0.Le) (ae (.bool (decide (x0.Le ≤ 32))) (ae (.bool (decide (x0.Le ≤ 32))) (ae (.bool (decide (x0.Le ≤ 32))) (af rfl (aa (ah qv (af rfl (af rfl (ag rfl rfl (ae (.bool false) (af rfl (aa ?_)))))))))))))
        refine aj ?_
        subst hR
        exact ai [] (.inr rfl) rfl rfl rfl rfl
      ·rw [hb6]; try simp only [hb6,bb] at hR
       iterate 14 refine ag rfl rfl ?_
       refine ae (.bool true) (af rfl (aa (ah qv (af rfl (af rfl (ag rfl rfl (ae (.bool false) (af rfl (aa (aj ?_))))))))))
       subst hR
       exact ai [] (.inr rfl) rfl rfl rfl rfl
     ·rw [hb5]; try simp only [hb5,bb] at hR
      refine ae (.ptr 0 4) (ae (.int .i64 x0.Ge) (ae (.bool (decide (x0.Ge ≤ 32))) (ae (.bool (decide (x0.Ge ≤ 32))) (ae (.bool (decide (x0.Ge ≤ 32))) (af rfl (aa (ah qv (ae (.ptr 0 5) (ae (.int .i64 x0.Le) (ae (.bool (decide (x0.Le = 0))) (af rfl ?_)))))))))))
      rcases qq (decide (x0.Le = 0)) with hb8 | hb8
      ·rw [hb8]; try simp only [hb8,bb] at hR
       refine ae (.ptr 0 5) (ae (.int .i64 x0.Le) (ae (.ptr 0 4) (ae (.int .i64 x0.Ge) (ae (.ptr 0 2) (ae (.ptr 0 3) (ae (.int .i64 x0.P.N) (ae (.int .i64 (max_ x0.Ge x0.P.N)) (ae (.bool (decide (max_ x0.Ge x0.P.N ≤ x0.Le))) (af rfl ?_)))))))))
       rcases qq (decide (max_ x0.Ge x0.P.N ≤ x0.Le)) with hb9 | hb9
       ·rw [hb9]; try simp only [hb9,bb] at hR
        refine ag rfl rfl (ag rfl rfl (ag rfl rfl (ae (.bool false) (ae (.bool false) (af rfl (aa (ah qv (af rfl (af rfl ?_)))))))))
        rcases qq (decide (x0.Ge ≤ 32)) with hb10 | hb10
        ·rw [hb10]; try simp only [hb10,bb] at hR
         refine ag rfl rfl (ae (.bool false) (af rfl (aa (aj ?_))))
         subst hR
         exact ai [] (.inr rfl) rfl rfl rfl rfl
        ·rw [hb10]; try simp only [hb10,bb] at hR
         refine af rfl (ae (.bool false) (af rfl (aa (aj ?_))))
         subst hR
         exact ai [] (.inr rfl) rfl rfl rfl rfl
       ·rw [hb9]; try simp only [hb9,bb] at hR
        refine ae (.ptr 0 5) (ae (.int .i64 x0.Le) (ae (.bool (decide (x0.Le ≤ 32))) (ae (.bool (decide (x0.Le ≤ 32))) (ae (.bool (decide (x0.Le ≤ 32))) (af rfl (aa (ah qv (af rfl (af rfl ?_)))))))))
        rcases qq (decide (x0.Ge ≤ 32)) with hb11 | hb11
        ·rw [hb11]; try simp only [hb11,bb] at hR
         refine ag rfl rfl (ae (.bool false) (af rfl (aa (aj ?_))))
         subst hR
         exact ai [] (.inr rfl) rfl rfl rfl rfl
        ·rw [hb11]; try simp only [hb11,bb] at hR
         refine af rfl (ae (.bool (decide (x0.Le ≤ 32))) (af rfl (aa (aj ?_))))
         subst hR
         exact ai [] (.inr rfl) rfl rfl rfl rfl
      ·rw [hb8]; try simp only [hb8,bb] at hR
       iterate 14 refine ag rfl rfl ?_
       refine ae (.bool true) (af rfl (aa (ah qv (af rfl (af rfl ?_)))))
       rcases qq (decide (x0.Ge ≤ 32)) with hb12 | hb12
       ·rw [hb12]; try simp only [hb12,bb] at hR
        refine ag rfl rfl (ae (.bool false) (af rfl (aa (aj ?_))))
        subst hR
        exact ai [] (.inr rfl) rfl rfl rfl rfl
       ·rw [hb12]; try simp only [hb12,bb] at hR
        refine af rfl (ae (.bool true) (af rfl (aa (aj ?_))))
        subst hR
        exact ai [] (.inr rfl) rfl rfl rfl rfl
    ·rw [hb4]; try simp only [hb4,bb] at hR
     iterate 11 refine ag rfl rfl ?_
     refine ae (.bool true) (af rfl (aa (ah qv (ae (.ptr 0 5) (ae (.int .i64 x0.Le) (ae (.bool (decide (x0.Le = 0))) (af rfl ?_)))))))
     rcases qq (decide (x0.Le = 0)) with hb13 | hb13
     ·rw [hb13]; try simp only [hb13,bb] at hR
      refine ae (.ptr 0 5) (ae (.int .i64 x0.Le) (ae (.ptr 0 4) (ae (.int .i64 x0.Ge) (ae (.ptr 0 2) (ae (.ptr 0 3) (ae (.int .i64 x0.P.N) (ae (.int .i64 (max_ x0.Ge x0.P.N)) (ae (.bool (decide (max_ x0.Ge x0.P.N ≤ x0.Le))) (af rfl ?_)))))))))
      rcases qq (decide (max_ x0.Ge x0.P.N ≤ x0.Le)) with hb14 | hb14
      ·rw [hb14]; try simp only [hb14,bb] at hR
       refine ag rfl rfl (ag rfl rfl (ag rfl rfl (ae (.bool false) (ae (.bool false) (af rfl (aa (ah qv (af rfl (af rfl (af rfl (ae (.bool false) (af rfl (aa ?_)))))))))))))
       refine aj ?_
       subst hR
       exact ai [] (.inr rfl) rfl rfl rfl rfl
      ·rw [hb14]; try simp only [hb14,bb] at hR
       refine ae (.ptr 0 5) (ae (.int .i64 x0.Le) (ae (.bool (decide (x0.Le ≤ 32))) (ae (.bool (decide (x0.Le ≤ 32))) (ae (.bool (decide (x0.Le ≤ 32))) (af rfl (aa (ah qv (af rfl (af rfl (af rfl (ae (.bool (decide (x0.Le ≤ 32))) (af rfl (aa ?_)))))))))))))
       refine aj ?_
       subst hR
       exact ai [] (.inr rfl) rfl rfl rfl rfl
     ·rw [hb13]; try simp only [hb13,bb] at hR
      iterate 14 refine ag rfl rfl ?_
      refine ae (.bool true) (af rfl (aa (ah qv (af rfl (af rfl (af rfl (ae (.bool true) (af rfl (aa (aj ?_))))))))))
      subst hR
      exact ai [] (.inr rfl) rfl rfl rfl rfl
  ·rw [hb2]; try simp only [hb2,bb] at hR
   iterate 4 refine ag rfl rfl ?_
   refine ae (.bool true) (aa (ap rfl (ah qv (af rfl (aa (aj ?_))))))
   subst hR
   exact ai [] (.inr rfl) rfl rfl rfl rfl
 ·rw [hb1]; try simp only [hb1,bb] at hR
  iterate 3 refine ag rfl rfl ?_
  refine ae (.bool true) ?_
  refine af rfl ?_
  iterate 4 refine ag rfl rfl ?_
  refine ae (.bool true) (aa (ap rfl (ah qv (af rfl (aa (aj ?_))))))
  subst hR
  exact ai [] (.inr rfl) rfl rfl rfl rfl
theorem f160_ok (x0:zv) (R:Bool) (hR:F160 x0 = R):FnOk Tryz.prog 160 [.agg (zv.c x0)] [] 0 (.bool R) [] 0:=by
 refine FnOk.wk i160 rfl rfl ?_
 unfold F160 at hR
 change WK _ _ _ [ac160] _ ⟨[(0,.agg (zv.c x0))],[],0⟩
 unfold ac160
 refine ah qv (aw (v':=.ptr 0 0) (zj:=[(0,.box (zv.c x0))]) (zk:=1) rfl rfl rfl rfl rfl rfl rfl (af rfl (aa (ah qv (ae (.agg (zv.c x0)) ?_)))))
 generalize hc4:F161 x0 = c4 at hR
 try dsimp only at hR
 refine av (r:=.bool c4) rfl rfl rfl (f161_ok x0 _ hc4) rfl rfl (ae (.bool (!c4)) (af rfl (aa (aj ?_))))
 subst hR
 exact ai [] (.inr rfl) rfl rfl rfl rfl
theorem f168_ok (s0:List zv) (gf1:FuncId) (gf1f gf1c:List PVal) (hf1:zv → Bool) (gf1k:PVal.closed.go gf1f = true ∧ PVal.closed.go gf1c = true) (gf1o : ∀ (y0:zv) (R:Bool),hf1 y0 = R → FnOk Tryz.prog gf1 (gf1f ++ [.agg (zv.c y0)] ++ gf1c) [] 0 (.bool R) [] 0) (R:Int) (hR:F168 s0 hf1 = R):FnOk Tryz.prog 168 [.ro 6 (s0.map zv.c),.fn gf1 gf1f gf1c] [] 0 (.int .i64 R) [] 0:=by
 refine FnOk.wk i168 rfl rfl ?_
 unfold F168 at hR
 change WK _ _ _ [ac168] _ ⟨[(0,.ro 6 (s0.map zv.c)),(1,.fn gf1 gf1f gf1c)],[],0⟩
 unfold ac168
 refine ah qv (af rfl (aa (ak (ah qv (af rfl (ar (v':=.int .i64 (s0.length:Int)) rfl rfl rfl rfl (ww _ _) (af rfl (aa ?_))))))))
 refine bq (t:=0) rfl (by simp) (fun ge1=>?_)
 rw [List.length_map] at ge1
 generalize gi1:F168l1 hf1 0 s0 = gh1 at hR
 refine aY (fun k s=>∃ (i8:Nat),i8 ≤ s0.length ∧ k = s0.length - i8 ∧ F168l1 hf1 i8 (s0.drop i8) = gh1 ∧ s = ⟨[(0,.ro 6 (s0.map zv.c)),(1,.fn gf1 gf1f gf1c),(7,.int .i64 (s0.length:Int)),(8,.int .i64 (i8:Int))],[],0⟩) s0.length (by refine ⟨_,?_,0,(by omega),rfl,gi1,rfl⟩; exact Conv.keep [] [] [0,1,7,8] rfl rfl (qx rfl rfl (qx rfl (aM gf1k) (qx rfl rfl (qx rfl rfl qy)))) rfl rfl) ?_
 rintro _ _ ⟨i8,gj1,rfl,gg1,rfl⟩ gb1 gd1 gk1 ga1 gc1 hQ_1
 refine ah qv (ae (.bool (decide ((i8:Int) < (s0.length:Int)))) (aa (ak ?_)))
 rcases qq (decide ((i8:Int) < (s0.length:Int))) with hb2 | hb2
 ·rw [hb2]
  rw [bc hb2,F168l1] at gg1
  refine aq rfl (aT ?_)
  refine aU (gc1 _ ?_)
  subst gg1
  try dsimp only [cond_true,cond_false] at hR
  refine ah qv (af rfl (aa (aj ?_)))
  subst hR
  exact ai [] (.inr rfl) rfl rfl rfl rfl
 ·rw [hb2]
  obtain ⟨x8,hx1,hd1,hlt1⟩:=aR hb2
  rw [hd1,F168l1] at gg1
  refine ap rfl (aA (ak ?_))
  refine aI (fun _ hK3=>?_)
  refine ah qv (af rfl (af rfl (aa (ah qv (af rfl (af rfl (af rfl (aZ (c:=zv.c) (x:=x8) rfl rfl rfl (Int.natCast_nonneg _) hx1 (ae (.agg (zv.c x8)) ?_)))))))))
  generalize hc16:hf1 x8 = c16 at gg1
  try dsimp only at gg1
  refine cd (r:=.bool c16) rfl rfl rfl (gf1o x8 _ hc16) (closed3 gf1k.1 rfl gf1k.2) rfl (aa ?_)
  rcases qq (c16) with hb4 | hb4
  ·rw [hb4]; try simp only [hb4,bb] at gg1
   refine aq rfl (aA ?_)
   refine aB (am (hK3 _ ?_))
   refine az qv (ar (v':=.int .i64 ((i8 + 1:Nat):Int)) rfl rfl rfl rfl (congrArg (PVal.int .i64) (aO hlt1 ge1)) (af rfl (aa ?_)))
   refine aB (am ?_)
   refine ga1 _ (s0.length - (i8 + 1)) _ (by omega) ?_ ⟨i8 + 1,(by omega),rfl,gg1,rfl⟩
   exact Conv.keep [] [] [0,1,7,8] rfl rfl (qx rfl rfl (qx rfl (aM gf1k) (qx rfl rfl (qx rfl rfl qy)))) rfl rfl
  ·rw [hb4]; try simp only [hb4,bb] at gg1
   refine ap rfl (ah qv (af rfl (af rfl (aa (aj (aS ?_))))))
   refine aS (hQ_1 _ _ ?_)
   subst gg1
   subst hR
   exact ai [] (.inr rfl) rfl rfl rfl rfl
theorem f162_ok (s0:List zv) (gf1:FuncId) (gf1f gf1c:List PVal) (hf1:zv → Bool) (gf1k:PVal.closed.go gf1f = true ∧ PVal.closed.go gf1c = true) (gf1o : ∀ (y0:zv) (R:Bool),hf1 y0 = R → FnOk Tryz.prog gf1 (gf1f ++ [.agg (zv.c y0)] ++ gf1c) [] 0 (.bool R) [] 0) (R:Bool) (hR:F162 s0 hf1 = R):FnOk Tryz.prog 162 [.ro 6 (s0.map zv.c),.fn gf1 gf1f gf1c] [] 0 (.bool R) [] 0:=by
 refine FnOk.wk i162 rfl rfl ?_
 unfold F162 at hR
 change WK _ _ _ [ac162] _ ⟨[(0,.ro 6 (s0.map zv.c)),(1,.fn gf1 gf1f gf1c)],[],0⟩
 unfold ac162
 refine ah qv (af rfl (aa (ah qv (af rfl (af rfl ?_)))))
 generalize hc7:F168 s0 hf1 = c7 at hR
 try dsimp only at hR
 refine av (r:=.int .i64 c7) rfl rfl rfl (f168_ok s0 gf1 gf1f gf1c hf1 gf1k gf1o _ hc7) (bP rfl (bP (fR gf1k) rfl)) rfl (ae (.bool (decide (0 ≤ c7))) (af rfl (aa (aj ?_))))
 subst hR
 exact ai [] (.inr rfl) rfl rfl rfl rfl
theorem f163_ok (l0:List zv) (gnumber1:FuncId) (gnumber1f gnumber1c:List PVal) (hnumber1:zv → Int) (gnumber1k:PVal.closed.go gnumber1f = true ∧ PVal.closed.go gnumber1c = true) (gnumber1o : ∀ (y0:zv) (R:Int),hnumber1 y0 = R → FnOk Tryz.prog gnumber1 (gnumber1f ++ [.agg (zv.c y0)] ++ gnumber1c) [] 0 (.int .i64 R) [] 0) (R:Bool) (hR:F163 l0 hnumber1 = R):FnOk Tryz.prog 163 [.ro 6 (l0.map zv.c),.fn gnumber1 gnumber1f gnumber1c] [] 0 (.bool R) [] 0:=by
 refine FnOk.wk i163 rfl rfl ?_
 unfold F163 at hR
 change WK _ _ _ [ac163] _ ⟨[(0,.ro 6 (l0.map zv.c)),(1,.fn gnumber1 gnumber1f gnumber1c)],[],0⟩
 unfold ac163
 refine ah qv (af rfl (aa (ak (ah qv (af rfl (ar (v':=.int .i64 (l0.length:Int)) rfl rfl rfl rfl (ww _ _) (af rfl (aa ?_))))))))
 refine bq (t:=0) rfl (by simp) (fun ge1=>?_)
 rw [List.length_map] at ge1
 generalize gi1:F163l1 l0 hnumber1 0 l0 = gh1 at hR
 refine aY (fun k s=>∃ (i8:Nat),i8 ≤ l0.length ∧ k = l0.length - i8 ∧ F163l1 l0 hnumber1 i8 (l0.drop i8) = gh1 ∧ s = ⟨[(0,.ro 6 (l0.map zv.c)),(1,.fn gnumber1 gnumber1f gnumber1c),(7,.int .i64 (l0.length:Int)),(8,.int .i64 (i8:Int))],[],0⟩) l0.length (by refine ⟨_,?_,0,(by omega),rfl,gi1,rfl⟩; exact Conv.keep [] [] [0,1,7,8] rfl rfl (qx rfl rfl (qx rfl (aM gnumber1k) (qx rfl rfl (qx rfl rfl qy)))) rfl rfl) ?_
 rintro _ _ ⟨i8,gj1,rfl,gg1,rfl⟩ gb1 gd1 gk1 ga1 gc1 hQ_1
 refine ah qv (ae (.bool (decide ((i8:Int) < (l0.length:Int)))) (aa (ak ?_)))
 rcases qq (decide ((i8:Int) < (l0.length:Int))) with hb2 | hb2
 ·rw [hb2]
  rw [bc hb2,F163l1] at gg1
  refine aq rfl (aT ?_)
  refine aU (gc1 _ ?_)
  subst gg1
  try dsimp only [cond_true,cond_false] at hR
  refine ah qv (af rfl (aa (aj ?_)))
  subst hR
  exact ai [] (.inr rfl) rfl rfl rfl rfl
 ·rw [hb2]
  obtain ⟨x8,hx1,hd1,hlt1⟩:=aR hb2
  rw [hd1,F163l1] at gg1
  refine ap rfl (aA (ak ?_))
  refine aI (fun _ hK3=>?_)
  refine ah qv (af rfl (af rfl (aa (ak (aE qv (aG rfl (au (.bool (decide (0 < (i8:Int)))) (aG rfl ?_))))))))
  rcases qq (decide (0 < (i8:Int))) with hb4 | hb4
  ·rw [hb4]; try simp only [hb4,bb] at gg1
   iterate 14 refine bE rfl rfl ?_
   refine au (.bool false) (aH rfl (aq rfl (aA ?_)))
   refine aB (am (hK3 _ ?_))
   refine az qv (ar (v':=.int .i64 ((i8 + 1:Nat):Int)) rfl rfl rfl rfl (congrArg (PVal.int .i64) (aO hlt1 ge1)) (af rfl (aa ?_)))
   refine aB (am ?_)
   refine ga1 _ (l0.length - (i8 + 1)) _ (by omega) ?_ ⟨i8 + 1,(by omega),rfl,gg1,rfl⟩
   exact Conv.keep [] [] [0,1,7,8] rfl rfl (qx rfl rfl (qx rfl (aM gnumber1k) (qx rfl rfl (qx rfl rfl qy)))) rfl rfl
  ·rw [hb4]; try simp only [hb4,bb] at gg1
   refine aG rfl (aG rfl (aG rfl (bn (c:=zv.c) (x:=x8) rfl rfl rfl (Int.natCast_nonneg _) hx1 (au (.agg (zv.c x8)) ?_))))
   generalize hc19:hnumber1 x8 = c19 at gg1
   try dsimp only at gg1
   refine bQ (r:=.int .i64 c19) rfl rfl rfl (gnumber1o x8 _ hc19) (closed3 gnumber1k.1 rfl gnumber1k.2) rfl (aG rfl (aG rfl (aG rfl (aF (v':=.int .i64 ((i8 - 1:Nat):Int)) rfl rfl rfl rfl (congrArg (PVal.int .i64) (wrap_down hb4 hlt1 ge1)) (bn (c:=zv.c) (x:=(l0.getD (i8 - 1) default)) rfl rfl rfl (Int.natCast_nonneg _) (cC (by omega)) (au (.agg [.int .i64 ((l0.getD (i8 - 1) default).Seq),.bool ((l0.getD (i8 - 1) default).Permit),.int .u32 (((l0.getD (i8 - 1) default).P).A),.int .i64 (((l0.getD (i8 - 1) default).P).N),.int .i64 ((l0.getD (i8 - 1) default).Ge),.int .i64 ((l0.getD (i8 - 1) default).Le)]) ?_))))))
   generalize hc26:hnumber1 (⟨(l0.getD (i8 - 1) default).Seq,(l0.getD (i8 - 1) default).Permit,((l0.getD (i8 - 1) default).P),(l0.getD (i8 - 1) default).Ge,(l0.getD (i8 - 1) default).Le⟩ : zv) = c26 at gg1
   try dsimp only at gg1
   refine bQ (r:=.int .i64 c26) rfl rfl rfl (gnumber1o (⟨(l0.getD (i8 - 1) default).Seq,(l0.getD (i8 - 1) default).Permit,((l0.getD (i8 - 1) default).P),(l0.getD (i8 - 1) default).Ge,(l0.getD (i8 - 1) default).Le⟩ : zv) _ hc26) (closed3 gnumber1k.1 rfl gnumber1k.2) rfl ?_
   iterate 2 refine au (.bool (decide (c19 ≤ c26))) ?_
   refine aH rfl ?_
   rcases qq (decide (c19 ≤ c26)) with hb5 | hb5
   ·rw [hb5]; try simp only [hb5,bb] at gg1
    refine aq rfl (aA ?_)
    refine aB (am (hK3 _ ?_))
    refine az qv (ar (v':=.int .i64 ((i8 + 1:Nat):Int)) rfl rfl rfl rfl (congrArg (PVal.int .i64) (aO hlt1 ge1)) (af rfl (aa ?_)))
    refine aB (am ?_)
    refine ga1 _ (l0.length - (i8 + 1)) _ (by omega) ?_ ⟨i8 + 1,(by omega),rfl,gg1,rfl⟩
    exact Conv.keep [] [] [0,1,7,8] rfl rfl (qx rfl rfl (qx rfl (aM gnumber1k) (qx rfl rfl (qx rfl rfl qy)))) rfl rfl
   ·rw [hb5]; try simp only [hb5,bb] at gg1
    refine ap rfl (ah qv (af rfl (aa (aj (aS ?_)))))
    refine aS (hQ_1 _ _ ?_)
    subst gg1
    subst hR
    exact ai [] (.inr rfl) rfl rfl rfl rfl
theorem f164_ok (x0:zv) (R:Int) (hR:F164 x0 = R):FnOk Tryz.prog 164 [.agg (zv.c x0)] [] 0 (.int .i64 R) [] 0:=by
 refine FnOk.wk i164 rfl rfl ?_
 unfold F164 at hR
 change WK _ _ _ [ac164] _ ⟨[(0,.agg (zv.c x0))],[],0⟩
 unfold ac164
 refine ah qv (aw (v':=.ptr 0 0) (zj:=[(0,.box (zv.c x0))]) (zk:=1) rfl rfl rfl rfl rfl rfl rfl (af rfl (aa (ah qv (ae (.ptr 0 0) (ae (.int .i64 x0.Seq) (af rfl (aa (aj ?_)))))))))
 subst hR
 exact ai [] (.inr rfl) rfl rfl rfl rfl
theorem f139_ok (l0:List zv) (R:Bool) (hR:F139 l0 = R):FnOk Tryz.prog 139 [.ro 6 (l0.map zv.c)] [] 0 (.bool R) [] 0:=by
 refine FnOk.wk i139 rfl rfl ?_
 unfold F139 at hR
 change WK _ _ _ [ac139] _ ⟨[(0,.ro 6 (l0.map zv.c))],[],0⟩
 unfold ac139
 refine ah qv (af rfl (aa (ah qv (af rfl (aa (ah qv (af rfl (af rfl ?_))))))))
 generalize hc6:F162 l0 (fun y0=>F160 y0) = c6 at hR
 try dsimp only at hR
 refine av (r:=.bool c6) rfl rfl rfl (f162_ok l0 160 [] [] (fun y0=>F160 y0) ⟨rfl,rfl⟩ (fun y0 _ hr=>f160_ok y0 _ hr) _ hc6) rfl rfl (ae (.bool (!c6)) (af rfl ?_))
 rcases qq (c6) with hb1 | hb1
 ·rw [hb1]; try simp only [hb1,bb] at hR
  refine af rfl ?_
  generalize hc10:F163 l0 (fun y0=>F164 y0) = c10 at hR
  try dsimp only at hR
  refine av (r:=.bool c10) rfl rfl rfl (f163_ok l0 164 [] [] (fun y0=>F164 y0) ⟨rfl,rfl⟩ (fun y0 _ hr=>f164_ok y0 _ hr) _ hc10) rfl rfl (ae (.bool c10) (af rfl (aa (aj ?_))))
  subst hR
  exact ai [] (.inr rfl) rfl rfl rfl rfl
 ·rw [hb1]; try simp only [hb1,bb] at hR
  refine ag rfl rfl (ag rfl rfl (ae (.bool false) (af rfl (aa (aj ?_)))))
  subst hR
  exact ai [] (.inr rfl) rfl rfl rfl rfl
theorem f99_ok (x0:zx) (R:Bool) (hR:F99 x0 = R):FnOk Tryz.prog 99 [.agg (zx.c x0)] [] 0 (.bool R) [] 0:=by
 refine FnOk.wk i99 rfl rfl ?_
 unfold F99 at hR
 change WK _ _ _ [ac99] _ ⟨[(0,.agg (zx.c x0))],[],0⟩
 unfold ac99
 refine ah qv (aw (v':=.ptr 0 0) (zj:=[(0,.box (zx.c x0))]) (zk:=1) rfl rfl rfl rfl rfl rfl rfl (af rfl (aa (ah qv (ae (.ptr 0 3) (ae (.int .i64 x0.MKind) ?_))))))
 generalize hc7:F138 x0.MKind (-1) 9 = c7 at hR
 try dsimp only at hR
 refine av (r:=.bool c7) rfl rfl rfl (f138_ok x0.MKind (-1) 9 _ hc7) rfl rfl (af rfl ?_)
 rcases qq (c7) with hb1 | hb1
 ·rw [hb1]; try simp only [hb1,bb] at hR
  iterate 5 refine ag rfl rfl ?_
  refine ae (.bool false) (af rfl (ag rfl rfl (ag rfl rfl (ag rfl rfl (ae (.bool false) (af rfl (aa (ah qv (ae (.ptr 0 7) (ae (.int .i64 x0.SCost) ?_))))))))))
  generalize hc22:F138 x0.SCost (-1) 16777215 = c22 at hR
  try dsimp only at hR
  refine av (r:=.bool c22) rfl rfl rfl (f138_ok x0.SCost (-1) 16777215 _ hc22) rfl rfl (af rfl ?_)
  rcases qq (c22) with hb2 | hb2
  ·rw [hb2]; try simp only [hb2,bb] at hR
   refine ag rfl rfl (ag rfl rfl (ag rfl rfl (ae (.bool false) (af rfl (ag rfl rfl (ag rfl rfl (ag rfl rfl (ae (.bool false) (af rfl (aa (ah qv (ae (.ptr 0 0) (ae (.int .i64 x0.Seq) ?_)))))))))))))
   generalize hc35:F138 x0.Seq 1 65535 = c35 at hR
   try dsimp only at hR
   refine av (r:=.bool c35) rfl rfl rfl (f138_ok x0.Seq 1 65535 _ hc35) rfl rfl (af rfl ?_)
   rcases qq (c35) with hb3 | hb3
   ·rw [hb3]; try simp only [hb3,bb] at hR
    refine ag rfl rfl (ae (.bool false) (af rfl (ag rfl rfl (ae (.bool false) (af rfl (ag rfl rfl (ag rfl rfl (ag rfl rfl (ae (.bool false) (af rfl (aa (aj ?_))))))))))))
    subst hR
    exact ai [] (.inr rfl) rfl rfl rfl rfl
   ·rw [hb3]; try simp only [hb3,bb] at hR
    refine af rfl (ae (.bool false) (af rfl (ag rfl rfl (ae (.bool false) (af rfl (ag rfl rfl (ag rfl rfl (ag rfl rfl (ae (.bool false) (af rfl (aa (aj ?_))))))))))))
    subst hR
    exact ai [] (.inr rfl) rfl rfl rfl rfl
  ·rw [hb2]; try simp only [hb2,bb] at hR
   refine ae (.ptr 0 8) (ae (.int .i64 x0.SPlus) ?_)
   generalize hc26:F138 x0.SPlus 0 16777215 = c26 at hR
   try dsimp only at hR
   refine av (r:=.bool c26) rfl rfl rfl (f138_ok x0.SPlus 0 16777215 _ hc26) rfl rfl (ae (.bool c26) (af rfl ?_))
   rcases qq (c26) with hb4 | hb4
   ·rw [hb4]; try simp only [hb4,bb] at hR
    refine ag rfl rfl (ag rfl rfl (ag rfl rfl (ae (.bool false) (af rfl (aa (ah qv (ae (.ptr 0 0) (ae (.int .i64 x0.Seq) ?_))))))))
    generalize hc35:F138 x0.Seq 1 65535 = c35 at hR
    try dsimp only at hR
    refine av (r:=.bool c35) rfl rfl rfl (f138_ok x0.Seq 1 65535 _ hc35) rfl rfl (af rfl ?_)
    rcases qq (c35) with hb5 | hb5
    ·rw [hb5]; try simp only [hb5,bb] at hR
     refine ag rfl rfl (ae (.bool false) (af rfl (ag rfl rfl (ae (.bool false) (af rfl (ag rfl rfl (ag rfl rfl (ag rfl rfl (ae (.bool false) (af rfl (aa (aj ?_))))))))))))
     subst hR
     exact ai [] (.inr rfl) rfl rfl rfl rfl
    ·rw [hb5]; try simp only [hb5,bb] at hR
     refine af rfl (ae (.bool false) (af rfl (ag rfl rfl (ae (.bool false) (af rfl (ag rfl rfl (ag rfl rfl (ag rfl rfl (ae (.bool false) (af rfl (aa (aj ?_))))))))))))
     subst hR
     exact ai [] (.inr rfl) rfl rfl rfl rfl
   ·rw [hb4]; try simp only [hb4,bb] at hR
    refine ae (.ptr 0 9) (ae (.int .i64 x0.SKind) ?_)
    generalize hc31:F138 x0.SKind (-1) 9 = c31 at hR
    try dsimp only at hR
    refine av (r:=.bool c31) rfl rfl rfl (f138_ok x0.SKind (-1) 9 _ hc31) rfl rfl (ae (.bool c31) (af rfl (aa (ah qv (ae (.ptr 0 0) (ae (.int .i64 x0.Seq) ?_))))))
    generalize hc35:F138 x0.Seq 1 65535 = c35 at hR
    try dsimp only at hR
    refine av (r:=.bool c35) rfl rfl rfl (f138_ok x0.Seq 1 65535 _ hc35) rfl rfl (af rfl ?_)
    rcases qq (c35) with hb6 | hb6
    ·rw [hb6]; try simp only [hb6,bb] at hR
     refine ag rfl rfl (ae (.bool false) (af rfl (ag rfl rfl (ae (.bool false) (af rfl (ag rfl rfl (ag rfl rfl (ag rfl rfl (ae (.bool false) (af rfl (aa (aj ?_))))))))))))
     subst hR
     exact ai [] (.inr rfl) rfl rfl rfl rfl
    ·rw [hb6]; try simp only [hb6,bb] at hR
     refine af rfl (ae (.bool false) (af rfl (ag rfl rfl (ae (.bool false) (af rfl (ag rfl rfl (ag rfl rfl (ag rfl rfl (ae (.bool false) (af rfl (aa (aj ?_))))))))))))
     subst hR
     exact ai [] (.inr rfl) rfl rfl rfl rfl
 ·rw [hb1]; try simp only [hb1,bb] at hR
  refine ae (.ptr 0 4) (ae (.int .i64 x0.MLow) (ae (.ptr 0 5) (ae (.int .i64 x0.MHigh) ?_)))
  generalize hc13:F138 x0.MLow 0 x0.MHigh = c13 at hR
  try dsimp only at hR
  refine av (r:=.bool c13) rfl rfl rfl (f138_ok x0.MLow 0 x0.MHigh _ hc13) rfl rfl (ae (.bool c13) (af rfl ?_))
  rcases qq (c13) with hb7 | hb7
  ·rw [hb7]; try simp only [hb7,bb] at hR
   refine ag rfl rfl (ag rfl rfl (ag rfl rfl (ae (.bool false) (af rfl (aa (ah qv (ae (.ptr 0 7) (ae (.int .i64 x0.SCost) ?_))))))))
   generalize hc22:F138 x0.SCost (-1) 16777215 = c22 at hR
   try dsimp only at hR
   refine av (r:=.bool c22) rfl rfl rfl (f138_ok x0.SCost (-1) 16777215 _ hc22) rfl rfl (af rfl ?_)
   rcases qq (c22) with hb8 | hb8
   ·rw [hb8]; try simp only [hb8,bb] at hR
    refine ag rfl rfl (ag rfl rfl (ag rfl rfl (ae (.bool false) (af rfl (ag rfl rfl (ag rfl rfl (ag rfl rfl (ae (.bool false) (af rfl (aa (ah qv (ae (.ptr 0 0) (ae (.int .i64 x0.Seq) ?_)))))))))))))
    generalize hc35:F138 x0.Seq 1 65535 = c35 at hR
    try dsimp only at hR
    refine av (r:=.bool c35) rfl rfl rfl (f138_ok x0.Seq 1 65535 _ hc35) rfl rfl (af rfl ?_)
    rcases qq (c35) with hb9 | hb9
    ·rw [hb9]; try simp only [hb9,bb] at hR
     refine ag rfl rfl (ae (.bool false) (af rfl (ag rfl rfl (ae (.bool false) (af rfl (ag rfl rfl (ag rfl rfl (ag rfl rfl (ae (.bool false) (af rfl (aa (aj ?_))))))))))))
     subst hR
     exact ai [] (.inr rfl) rfl rfl rfl rfl
    ·rw [hb9]; try simp only [hb9,bb] at hR
     refine af rfl (ae (.bool false) (af rfl (ag rfl rfl (ae (.bool false) (af rfl (ag rfl rfl (ag rfl rfl (ag rfl rfl (ae (.bool false) (af rfl (aa (aj ?_))))))))))))
     subst hR
     exact ai [] (.inr rfl) rfl rfl rfl rfl
   ·rw [hb8]; try simp only [hb8,bb] at hR
    refine ae (.ptr 0 8) (ae (.int .i64 x0.SPlus) ?_)
    generalize hc26:F138 x0.SPlus 0 16777215 = c26 at hR
    try dsimp only at hR
    refine av (r:=.bool c26) rfl rfl rfl (f138_ok x0.SPlus 0 16777215 _ hc26) rfl rfl (ae (.bool c26) (af rfl ?_))
    rcases qq (c26) with hb10 | hb10
    ·rw [hb10]; try simp only [hb10,bb] at hR
     refine ag rfl rfl (ag rfl rfl (ag rfl rfl (ae (.bool false) (af rfl (aa (ah qv (ae (.ptr 0 0) (ae (.int .i64 x0.Seq) ?_))))))))
     generalize hc35:F138 x0.Seq 1 65535 = c35 at hR
     try dsimp only at hR
     refine av (r:=.bool c35) rfl rfl rfl (f138_ok x0.Seq 1 65535 _ hc35) rfl rfl (af rfl ?_)
     rcases qq (c35) with hb11 | hb11
     ·rw [hb11]; try simp only [hb11,bb] at hR
      refine ag rfl rfl (ae (.bool false) (af rfl (ag rfl rfl (ae (.bool false) (af rfl (ag rfl rfl (ag rfl rfl (ag rfl rfl (ae (.bool false) (af rfl (aa (aj ?_))))))))))))
      subst hR
      exact ai [] (.inr rfl) rfl rfl rfl rfl
     ·rw [hb11]; try simp only [hb11,bb] at hR
      refine af rfl (ae (.bool false) (af rfl (ag rfl rfl (ae (.bool false) (af rfl (ag rfl rfl (ag rfl rfl (ag rfl rfl (ae (.bool false) (af rfl (aa (aj ?_))))))))))))
      subst hR
      exact ai [] (.inr rfl) rfl rfl rfl rfl
    ·rw [hb10]; try simp only [hb10,bb] at hR
     refine ae (.ptr 0 9) (ae (.int .i64 x0.SKind) ?_)
     generalize hc31:F138 x0.SKind (-1) 9 = c31 at hR
     try dsimp only at hR
     refine av (r:=.bool c31) rfl rfl rfl (f138_ok x0.SKind (-1) 9 _ hc31) rfl rfl (ae (.bool c31) (af rfl (aa (ah qv (ae (.ptr 0 0) (ae (.int .i64 x0.Seq) ?_))))))
     generalize hc35:F138 x0.Seq 1 65535 = c35 at hR
     try dsimp only at hR
     refine av (r:=.bool c35) rfl rfl rfl (f138_ok x0.Seq 1 65535 _ hc35) rfl rfl (af rfl ?_)
     rcases qq (c35) with hb12 | hb12
     ·rw [hb12]; try simp only [hb12,bb] at hR
      refine ag rfl rfl (ae (.bool false) (af rfl (ag rfl rfl (ae (.bool false) (af rfl (ag rfl rfl (ag rfl rfl (ag rfl rfl (ae (.bool false) (af rfl (aa (aj ?_))))))))))))
      subst hR
      exact ai [] (.inr rfl) rfl rfl rfl rfl
     ·rw [hb12]; try simp only [hb12,bb] at hR
      refine af rfl (ae (.bool false) (af rfl (ag rfl rfl (ae (.bool false) (af rfl (ag rfl rfl (ag rfl rfl (ag rfl rfl (ae (.bool false) (af rfl (aa (aj ?_))))))))))))
      subst hR
      exact ai [] (.inr rfl) rfl rfl rfl rfl
  ·rw [hb7]; try simp only [hb7,bb] at hR
   refine ae (.ptr 0 5) (ae (.int .i64 x0.MHigh) (ae (.bool (decide (x0.MHigh ≤ 16777215))) (ae (.bool (decide (x0.MHigh ≤ 16777215))) (af rfl (aa (ah qv (ae (.ptr 0 7) (ae (.int .i64 x0.SCost) ?_))))))))
   generalize hc22:F138 x0.SCost (-1) 16777215 = c22 at hR
   try dsimp only at hR
   refine av (r:=.bool c22) rfl rfl rfl (f138_ok x0.SCost (-1) 16777215 _ hc22) rfl rfl (af rfl ?_)
   rcases qq (c22) with hb13 | hb13
   ·rw [hb13]; try simp only [hb13,bb] at hR
    refine ag rfl rfl (ag rfl rfl (ag rfl rfl (ae (.bool false) (af rfl (ag rfl rfl (ag rfl rfl (ag rfl rfl (ae (.bool false) (af rfl (aa (ah qv (ae (.ptr 0 0) (ae (.int .i64 x0.Seq) ?_)))))))))))))
    generalize hc35:F138 x0.Seq 1 65535 = c35 at hR
    try dsimp only at hR
    refine av (r:=.bool c35) rfl rfl rfl (f138_ok x0.Seq 1 65535 _ hc35) rfl rfl (af rfl ?_)
    rcases qq (c35) with hb14 | hb14
    ·rw [hb14]; try simp only [hb14,bb] at hR
     refine ag rfl rfl (ae (.bool false) (af rfl (ag rfl rfl (ae (.bool false) (af rfl (ag rfl rfl (ag rfl rfl (ag rfl rfl (ae (.bool false) (af rfl (aa (aj ?_))))))))))))
     subst hR
     exact ai [] (.inr rfl) rfl rfl rfl rfl
    ·rw [hb14]; try simp only [hb14,bb] at hR
     refine af rfl (ae (.bool (decide (x0.MHigh ≤ 16777215))) (af rfl ?_))
     rcases qq (decide (x0.MHigh ≤ 16777215)) with hb15 | hb15
     ·rw [hb15]; try simp only [hb15,bb] at hR
      refine ag rfl rfl (ae (.bool false) (af rfl (ag rfl rfl (ag rfl rfl (ag rfl rfl (ae (.bool false) (af rfl (aa (aj ?_)))))))))
      subst hR
      exact ai [] (.inr rfl) rfl rfl rfl rfl
     ·rw [hb15]; try simp only [hb15,bb] at hR
      refine af rfl (ae (.bool false) (af rfl (ag rfl rfl (ag rfl rfl (ag rfl rfl (ae (.bool false) (af rfl (aa (aj ?_)))))))))
      subst hR
      exact ai [] (.inr rfl) rfl rfl rfl rfl
   ·rw [hb13]; try simp only [hb13,bb] at hR
    refine ae (.ptr 0 8) (ae (.int .i64 x0.SPlus) ?_)
    generalize hc26:F138 x0.SPlus 0 16777215 = c26 at hR
    try dsimp only at hR
    refine av (r:=.bool c26) rfl rfl rfl (f138_ok x0.SPlus 0 16777215 _ hc26) rfl rfl (ae (.bool c26) (af rfl ?_))
    rcases qq (c26) with hb16 | hb16
    ·rw [hb16]; try simp only [hb16,bb] at hR
     refine ag rfl rfl (ag rfl rfl (ag rfl rfl (ae (.bool false) (af rfl (aa (ah qv (ae (.ptr 0 0) (ae (.int .i64 x0.Seq) ?_))))))))
     generalize hc35:F138 x0.Seq 1 65535 = c35 at hR
     try dsimp only at hR
     refine av (r:=.bool c35) rfl rfl rfl (f138_ok x0.Seq 1 65535 _ hc35) rfl rfl (af rfl ?_)
     rcases qq (c35) with hb17 | hb17
     ·rw [hb17]; try simp only [hb17,bb] at hR
      refine ag rfl rfl (ae (.bool false) (af rfl (ag rfl rfl (ae (.bool false) (af rfl (ag rfl rfl (ag rfl rfl (ag rfl rfl (ae (.bool false) (af rfl (aa (aj ?_))))))))))))
      subst hR
      exact ai [] (.inr rfl) rfl rfl rfl rfl
     ·rw [hb17]; try simp only [hb17,bb] at hR
      refine af rfl (ae (.bool (decide (x0.MHigh ≤ 16777215))) (af rfl ?_))
      rcases qq (decide (x0.MHigh ≤ 16777215)) with hb18 | hb18
      ·rw [hb18]; try simp only [hb18,bb] at hR
       refine ag rfl rfl (ae (.bool false) (af rfl (ag rfl rfl (ag rfl rfl (ag rfl rfl (ae (.bool false) (af rfl (aa (aj ?_)))))))))
       subst hR
       exact ai [] (.inr rfl) rfl rfl rfl rfl
      ·rw [hb18]; try simp only [hb18,bb] at hR
       refine af rfl (ae (.bool false) (af rfl (ag rfl rfl (ag rfl rfl (ag rfl rfl (ae (.bool false) (af rfl (aa (aj ?_)))))))))
       subst hR
       exact ai [] (.inr rfl) rfl rfl rfl rfl
    ·rw [hb16]; try simp only [hb16,bb] at hR
     refine ae (.ptr 0 9) (ae (.int .i64 x0.SKind) ?_)
     generalize hc31:F138 x0.SKind (-1) 9 = c31 at hR
     try dsimp only at hR
     refine av (r:=.bool c31) rfl rfl rfl (f138_ok x0.SKind (-1) 9 _ hc31) rfl rfl (ae (.bool c31) (af rfl (aa (ah qv (ae (.ptr 0 0) (ae (.int .i64 x0.Seq) ?_))))))
     generalize hc35:F138 x0.Seq 1 65535 = c35 at hR
     try dsimp only at hR
     refine av (r:=.bool c35) rfl rfl rfl (f138_ok x0.Seq 1 65535 _ hc35) rfl rfl (af rfl ?_)
     rcases qq (c35) with hb19 | hb19
     ·rw [hb19]; try simp only [hb19,bb] at hR
      refine ag rfl rfl (ae (.bool false) (af rfl (ag rfl rfl (ae (.bool false) (af rfl (ag rfl rfl (ag rfl rfl (ag rfl rfl (ae (.bool false) (af rfl (aa (aj ?_))))))))))))
      subst hR
      exact ai [] (.inr rfl) rfl rfl rfl rfl
     ·rw [hb19]; try simp only [hb19,bb] at hR
      refine af rfl (ae (.bool (decide (x0.MHigh ≤ 16777215))) (af rfl ?_))
      rcases qq (decide (x0.MHigh ≤ 16777215)) with hb20 | hb20
      ·rw [hb20]; try simp only [hb20,bb] at hR
       refine ag rfl rfl (ae (.bool false) (af rfl (ag rfl rfl (ag rfl rfl (ag rfl rfl (ae (.bool false) (af rfl (aa (aj ?_)))))))))
       subst hR
       exact ai [] (.inr rfl) rfl rfl rfl rfl
      ·rw [hb20]; try simp only [hb20,bb] at hR
       refine af rfl (ae (.bool c31) (af rfl ?_))
       rcases qq (c31) with hb21 | hb21
       ·rw [hb21]; try simp only [hb21,bb] at hR
        refine ag rfl rfl (ag rfl rfl (ag rfl rfl (ae (.bool false) (af rfl (aa (aj ?_))))))
        subst hR
        exact ai [] (.inr rfl) rfl rfl rfl rfl
       ·rw [hb21]; try simp only [hb21,bb] at hR
        refine ae (.ptr 0 2) (ae (.ro 6 (x0.Listf.map zv.c)) ?_)
        generalize hc45:F139 x0.Listf = c45 at hR
        try dsimp only at hR
        refine av (r:=.bool c45) rfl rfl rfl (f139_ok x0.Listf _ hc45) rfl rfl (ae (.bool c45) (af rfl (aa (aj ?_))))
        subst hR
        exact ai [] (.inr rfl) rfl rfl rfl rfl
theorem f98_ok (x0:zx) (R:Bool) (hR:F98 x0 = R):FnOk Tryz.prog 98 [.agg (zx.c x0)] [] 0 (.bool R) [] 0:=by
 refine FnOk.wk i98 rfl rfl ?_
 unfold F98 at hR
 change WK _ _ _ [ac98] _ ⟨[(0,.agg (zx.c x0))],[],0⟩
 unfold ac98
 refine ah qv (aw (v':=.ptr 0 0) (zj:=[(0,.box (zx.c x0))]) (zk:=1) rfl rfl rfl rfl rfl rfl rfl (af rfl (aa (ah qv (ae (.agg (zx.c x0)) ?_)))))
 generalize hc4:F99 x0 = c4 at hR
 try dsimp only at hR
 refine av (r:=.bool c4) rfl rfl rfl (f99_ok x0 _ hc4) rfl rfl (ae (.bool (!c4)) (af rfl (aa (aj ?_))))
 subst hR
 exact ai [] (.inr rfl) rfl rfl rfl rfl
theorem f119_ok (s0:List zx) (gf1:FuncId) (gf1f gf1c:List PVal) (hf1:zx → Bool) (gf1k:PVal.closed.go gf1f = true ∧ PVal.closed.go gf1c = true) (gf1o : ∀ (y0:zx) (R:Bool),hf1 y0 = R → FnOk Tryz.prog gf1 (gf1f ++ [.agg (zx.c y0)] ++ gf1c) [] 0 (.bool R) [] 0) (R:Int) (hR:F119 s0 hf1 = R):FnOk Tryz.prog 119 [.ro 12 (s0.map zx.c),.fn gf1 gf1f gf1c] [] 0 (.int .i64 R) [] 0:=by
 refine FnOk.wk i119 rfl rfl ?_
 unfold F119 at hR
 change WK _ _ _ [ac119] _ ⟨[(0,.ro 12 (s0.map zx.c)),(1,.fn gf1 gf1f gf1c)],[],0⟩
 unfold ac119
 refine ah qv (af rfl (aa (ak (ah qv (af rfl (ar (v':=.int .i64 (s0.length:Int)) rfl rfl rfl rfl (ww _ _) (af rfl (aa ?_))))))))
 refine bq (t:=0) rfl (by simp) (fun ge1=>?_)
 rw [List.length_map] at ge1
 generalize gi1:F119l1 hf1 0 s0 = gh1 at hR
 refine aY (fun k s=>∃ (i8:Nat),i8 ≤ s0.length ∧ k = s0.length - i8 ∧ F119l1 hf1 i8 (s0.drop i8) = gh1 ∧ s = ⟨[(0,.ro 12 (s0.map zx.c)),(1,.fn gf1 gf1f gf1c),(7,.int .i64 (s0.length:Int)),(8,.int .i64 (i8:Int))],[],0⟩) s0.length (by refine ⟨_,?_,0,(by omega),rfl,gi1,rfl⟩; exact Conv.keep [] [] [0,1,7,8] rfl rfl (qx rfl rfl (qx rfl (aM gf1k) (qx rfl rfl (qx rfl rfl qy)))) rfl rfl) ?_
 rintro _ _ ⟨i8,gj1,rfl,gg1,rfl⟩ gb1 gd1 gk1 ga1 gc1 hQ_1
 refine ah qv (ae (.bool (decide ((i8:Int) < (s0.length:Int)))) (aa (ak ?_)))
 rcases qq (decide ((i8:Int) < (s0.length:Int))) with hb2 | hb2
 ·rw [hb2]
  rw [bc hb2,F119l1] at gg1
  refine aq rfl (aT ?_)
  refine aU (gc1 _ ?_)
  subst gg1
  try dsimp only [cond_true,cond_false] at hR
  refine ah qv (af rfl (aa (aj ?_)))
  subst hR
  exact ai [] (.inr rfl) rfl rfl rfl rfl
 ·rw [hb2]
  obtain ⟨x8,hx1,hd1,hlt1⟩:=aR hb2
  rw [hd1,F119l1] at gg1
  refine ap rfl (aA (ak ?_))
  refine aI (fun _ hK3=>?_)
  refine ah qv (af rfl (af rfl (aa (ah qv (af rfl (af rfl (af rfl (aZ (c:=zx.c) (x:=x8) rfl rfl rfl (Int.natCast_nonneg _) hx1 (ae (.agg (zx.c x8)) ?_)))))))))
  generalize hc16:hf1 x8 = c16 at gg1
  try dsimp only at gg1
  refine cd (r:=.bool c16) rfl rfl rfl (gf1o x8 _ hc16) (closed3 gf1k.1 rfl gf1k.2) rfl (aa ?_)
  rcases qq (c16) with hb4 | hb4
  ·rw [hb4]; try simp only [hb4,bb] at gg1
   refine aq rfl (aA ?_)
   refine aB (am (hK3 _ ?_))
   refine az qv (ar (v':=.int .i64 ((i8 + 1:Nat):Int)) rfl rfl rfl rfl (congrArg (PVal.int .i64) (aO hlt1 ge1)) (af rfl (aa ?_)))
   refine aB (am ?_)
   refine ga1 _ (s0.length - (i8 + 1)) _ (by omega) ?_ ⟨i8 + 1,(by omega),rfl,gg1,rfl⟩
   exact Conv.keep [] [] [0,1,7,8] rfl rfl (qx rfl rfl (qx rfl (aM gf1k) (qx rfl rfl (qx rfl rfl qy)))) rfl rfl
  ·rw [hb4]; try simp only [hb4,bb] at gg1
   refine ap rfl (ah qv (af rfl (af rfl (aa (aj (aS ?_))))))
   refine aS (hQ_1 _ _ ?_)
   subst gg1
   subst hR
   exact ai [] (.inr rfl) rfl rfl rfl rfl
theorem f100_ok (s0:List zx) (gf1:FuncId) (gf1f gf1c:List PVal) (hf1:zx → Bool) (gf1k:PVal.closed.go gf1f = true ∧ PVal.closed.go gf1c = true) (gf1o : ∀ (y0:zx) (R:Bool),hf1 y0 = R → FnOk Tryz.prog gf1 (gf1f ++ [.agg (zx.c y0)] ++ gf1c) [] 0 (.bool R) [] 0) (R:Bool) (hR:F100 s0 hf1 = R):FnOk Tryz.prog 100 [.ro 12 (s0.map zx.c),.fn gf1 gf1f gf1c] [] 0 (.bool R) [] 0:=by
 refine FnOk.wk i100 rfl rfl ?_
 unfold F100 at hR
 change WK _ _ _ [ac100] _ ⟨[(0,.ro 12 (s0.map zx.c)),(1,.fn gf1 gf1f gf1c)],[],0⟩
 unfold ac100
 refine ah qv (af rfl (aa (ah qv (af rfl (af rfl ?_)))))
 generalize hc7:F119 s0 hf1 = c7 at hR
 try dsimp only at hR
 refine av (r:=.int .i64 c7) rfl rfl rfl (f119_ok s0 gf1 gf1f gf1c hf1 gf1k gf1o _ hc7) (bP rfl (bP (fR gf1k) rfl)) rfl (ae (.bool (decide (0 ≤ c7))) (af rfl (aa (aj ?_))))
 subst hR
 exact ai [] (.inr rfl) rfl rfl rfl rfl
theorem f101_ok (l0:List zx) (gnumber1:FuncId) (gnumber1f gnumber1c:List PVal) (hnumber1:zx → Int) (gnumber1k:PVal.closed.go gnumber1f = true ∧ PVal.closed.go gnumber1c = true) (gnumber1o : ∀ (y0:zx) (R:Int),hnumber1 y0 = R → FnOk Tryz.prog gnumber1 (gnumber1f ++ [.agg (zx.c y0)] ++ gnumber1c) [] 0 (.int .i64 R) [] 0) (R:Bool) (hR:F101 l0 hnumber1 = R):FnOk Tryz.prog 101 [.ro 12 (l0.map zx.c),.fn gnumber1 gnumber1f gnumber1c] [] 0 (.bool R) [] 0:=by
 refine FnOk.wk i101 rfl rfl ?_
 unfold F101 at hR
 change WK _ _ _ [ac101] _ ⟨[(0,.ro 12 (l0.map zx.c)),(1,.fn gnumber1 gnumber1f gnumber1c)],[],0⟩
 unfold ac101
 refine ah qv (af rfl (aa (ak (ah qv (af rfl (ar (v':=.int .i64 (l0.length:Int)) rfl rfl rfl rfl (ww _ _) (af rfl (aa ?_))))))))
 refine bq (t:=0) rfl (by simp) (fun ge1=>?_)
 rw [List.length_map] at ge1
 generalize gi1:F101l1 l0 hnumber1 0 l0 = gh1 at hR
 refine aY (fun k s=>∃ (i8:Nat),i8 ≤ l0.length ∧ k = l0.length - i8 ∧ F101l1 l0 hnumber1 i8 (l0.drop i8) = gh1 ∧ s = ⟨[(0,.ro 12 (l0.map zx.c)),(1,.fn gnumber1 gnumber1f gnumber1c),(7,.int .i64 (l0.length:Int)),(8,.int .i64 (i8:Int))],[],0⟩) l0.length (by refine ⟨_,?_,0,(by omega),rfl,gi1,rfl⟩; exact Conv.keep [] [] [0,1,7,8] rfl rfl (qx rfl rfl (qx rfl (aM gnumber1k) (qx rfl rfl (qx rfl rfl qy)))) rfl rfl) ?_
 rintro _ _ ⟨i8,gj1,rfl,gg1,rfl⟩ gb1 gd1 gk1 ga1 gc1 hQ_1
 refine ah qv (ae (.bool (decide ((i8:Int) < (l0.length:Int)))) (aa (ak ?_)))
 rcases qq (decide ((i8:Int) < (l0.length:Int))) with hb2 | hb2
 ·rw [hb2]
  rw [bc hb2,F101l1] at gg1
  refine aq rfl (aT ?_)
  refine aU (gc1 _ ?_)
  subst gg1
  try dsimp only [cond_true,cond_false] at hR
  refine ah qv (af rfl (aa (aj ?_)))
  subst hR
  exact ai [] (.inr rfl) rfl rfl rfl rfl
 ·rw [hb2]
  obtain ⟨x8,hx1,hd1,hlt1⟩:=aR hb2
  rw [hd1,F101l1] at gg1
  refine ap rfl (aA (ak ?_))
  refine aI (fun _ hK3=>?_)
  refine ah qv (af rfl (af rfl (aa (ak (aE qv (aG rfl (au (.bool (decide (0 < (i8:Int)))) (aG rfl ?_))))))))
  rcases qq (decide (0 < (i8:Int))) with hb4 | hb4
  ·rw [hb4]; try simp only [hb4,bb] at gg1
   iterate 14 refine bE rfl rfl ?_
   refine au (.bool false) (aH rfl (aq rfl (aA ?_)))
   refine aB (am (hK3 _ ?_))
   refine az qv (ar (v':=.int .i64 ((i8 + 1:Nat):Int)) rfl rfl rfl rfl (congrArg (PVal.int .i64) (aO hlt1 ge1)) (af rfl (aa ?_)))
   refine aB (am ?_)
   refine ga1 _ (l0.length - (i8 + 1)) _ (by omega) ?_ ⟨i8 + 1,(by omega),rfl,gg1,rfl⟩
   exact Conv.keep [] [] [0,1,7,8] rfl rfl (qx rfl rfl (qx rfl (aM gnumber1k) (qx rfl rfl (qx rfl rfl qy)))) rfl rfl
  ·rw [hb4]; try simp only [hb4,bb] at gg1
   refine aG rfl (aG rfl (aG rfl (bn (c:=zx.c) (x:=x8) rfl rfl rfl (Int.natCast_nonneg _) hx1 (au (.agg (zx.c x8)) ?_))))
   generalize hc19:hnumber1 x8 = c19 at gg1
   try dsimp only at gg1
   refine bQ (r:=.int .i64 c19) rfl rfl rfl (gnumber1o x8 _ hc19) (closed3 gnumber1k.1 rfl gnumber1k.2) rfl (aG rfl (aG rfl (aG rfl (aF (v':=.int .i64 ((i8 - 1:Nat):Int)) rfl rfl rfl rfl (congrArg (PVal.int .i64) (wrap_down hb4 hlt1 ge1)) (bn (c:=zx.c) (x:=(l0.getD (i8 - 1) default)) rfl rfl rfl (Int.natCast_nonneg _) (cC (by omega)) (au (.agg [.int .i64 ((l0.getD (i8 - 1) default).Seq),.bool ((l0.getD (i8 - 1) default).Permit),.ro 6 (((l0.getD (i8 - 1) default).Listf).map zv.c),.int .i64 ((l0.getD (i8 - 1) default).MKind),.int .i64 ((l0.getD (i8 - 1) default).MLow),.int .i64 ((l0.getD (i8 - 1) default).MHigh),.ro 1 (((l0.getD (i8 - 1) default).MTags).map bI),.int .i64 ((l0.getD (i8 - 1) default).SCost),.int .i64 ((l0.getD (i8 - 1) default).SPlus),.int .i64 ((l0.getD (i8 - 1) default).SKind),.bool ((l0.getD (i8 - 1) default).SetTag),.int .u32 ((l0.getD (i8 - 1) default).STag)]) ?_))))))
   generalize hc26:hnumber1 (l0.getD (i8 - 1) default) = c26 at gg1
   try dsimp only at gg1
   refine bQ (r:=.int .i64 c26) rfl rfl rfl (gnumber1o (l0.getD (i8 - 1) default) _ hc26) (closed3 gnumber1k.1 rfl gnumber1k.2) rfl ?_
   iterate 2 refine au (.bool (decide (c19 ≤ c26))) ?_
   refine aH rfl ?_
   rcases qq (decide (c19 ≤ c26)) with hb5 | hb5
   ·rw [hb5]; try simp only [hb5,bb] at gg1
    refine aq rfl (aA ?_)
    refine aB (am (hK3 _ ?_))
    refine az qv (ar (v':=.int .i64 ((i8 + 1:Nat):Int)) rfl rfl rfl rfl (congrArg (PVal.int .i64) (aO hlt1 ge1)) (af rfl (aa ?_)))
    refine aB (am ?_)
    refine ga1 _ (l0.length - (i8 + 1)) _ (by omega) ?_ ⟨i8 + 1,(by omega),rfl,gg1,rfl⟩
    exact Conv.keep [] [] [0,1,7,8] rfl rfl (qx rfl rfl (qx rfl (aM gnumber1k) (qx rfl rfl (qx rfl rfl qy)))) rfl rfl
   ·rw [hb5]; try simp only [hb5,bb] at gg1
    refine ap rfl (ah qv (af rfl (aa (aj (aS ?_)))))
    refine aS (hQ_1 _ _ ?_)
    subst gg1
    subst hR
    exact ai [] (.inr rfl) rfl rfl rfl rfl
theorem f102_ok (x0:zx) (R:Int) (hR:F102 x0 = R):FnOk Tryz.prog 102 [.agg (zx.c x0)] [] 0 (.int .i64 R) [] 0:=by
 refine FnOk.wk i102 rfl rfl ?_
 unfold F102 at hR
 change WK _ _ _ [ac102] _ ⟨[(0,.agg (zx.c x0))],[],0⟩
 unfold ac102
 refine ah qv (aw (v':=.ptr 0 0) (zj:=[(0,.box (zx.c x0))]) (zk:=1) rfl rfl rfl rfl rfl rfl rfl (af rfl (aa (ah qv (ae (.ptr 0 0) (ae (.int .i64 x0.Seq) (af rfl (aa (aj ?_)))))))))
 subst hR
 exact ai [] (.inr rfl) rfl rfl rfl rfl
theorem f65_ok (m0:List zx) (R:Bool) (hR:F65 m0 = R):FnOk Tryz.prog 65 [.ro 12 (m0.map zx.c)] [] 0 (.bool R) [] 0:=by
 refine FnOk.wk i65 rfl rfl ?_
 unfold F65 at hR
 change WK _ _ _ [ac65] _ ⟨[(0,.ro 12 (m0.map zx.c))],[],0⟩
 unfold ac65
 refine ah qv (af rfl (aa (ah qv (af rfl (aa (ah qv (af rfl (af rfl ?_))))))))
 generalize hc6:F100 m0 (fun y0=>F98 y0) = c6 at hR
 try dsimp only at hR
 refine av (r:=.bool c6) rfl rfl rfl (f100_ok m0 98 [] [] (fun y0=>F98 y0) ⟨rfl,rfl⟩ (fun y0 _ hr=>f98_ok y0 _ hr) _ hc6) rfl rfl (ae (.bool (!c6)) (af rfl ?_))
 rcases qq (c6) with hb1 | hb1
 ·rw [hb1]; try simp only [hb1,bb] at hR
  refine af rfl ?_
  generalize hc10:F101 m0 (fun y0=>F102 y0) = c10 at hR
  try dsimp only at hR
  refine av (r:=.bool c10) rfl rfl rfl (f101_ok m0 102 [] [] (fun y0=>F102 y0) ⟨rfl,rfl⟩ (fun y0 _ hr=>f102_ok y0 _ hr) _ hc10) rfl rfl (ae (.bool c10) (af rfl (aa (aj ?_))))
  subst hR
  exact ai [] (.inr rfl) rfl rfl rfl rfl
 ·rw [hb1]; try simp only [hb1,bb] at hR
  refine ag rfl rfl (ag rfl rfl (ae (.bool false) (af rfl (aa (aj ?_)))))
  subst hR
  exact ai [] (.inr rfl) rfl rfl rfl rfl
theorem f103_ok (s0:List zz) (gf1:FuncId) (gf1f gf1c:List PVal) (hf1:zz → Bool) (gf1k:PVal.closed.go gf1f = true ∧ PVal.closed.go gf1c = true) (gf1o : ∀ (y0:zz) (R:Bool),hf1 y0 = R → FnOk Tryz.prog gf1 (gf1f ++ [.agg (zz.c y0)] ++ gf1c) [] 0 (.bool R) [] 0) (R:Int) (hR:F103 s0 hf1 = R):FnOk Tryz.prog 103 [.ro 3 (s0.map zz.c),.fn gf1 gf1f gf1c] [] 0 (.int .i64 R) [] 0:=by
 refine FnOk.wk i103 rfl rfl ?_
 unfold F103 at hR
 change WK _ _ _ [ac103] _ ⟨[(0,.ro 3 (s0.map zz.c)),(1,.fn gf1 gf1f gf1c)],[],0⟩
 unfold ac103
 refine ah qv (af rfl (aa (ak (ah qv (af rfl (ar (v':=.int .i64 (s0.length:Int)) rfl rfl rfl rfl (ww _ _) (af rfl (aa ?_))))))))
 refine bq (t:=0) rfl (by simp) (fun ge1=>?_)
 rw [List.length_map] at ge1
 generalize gi1:F103l1 hf1 0 s0 = gh1 at hR
 refine aY (fun k s=>∃ (i8:Nat),i8 ≤ s0.length ∧ k = s0.length - i8 ∧ F103l1 hf1 i8 (s0.drop i8) = gh1 ∧ s = ⟨[(0,.ro 3 (s0.map zz.c)),(1,.fn gf1 gf1f gf1c),(7,.int .i64 (s0.length:Int)),(8,.int .i64 (i8:Int))],[],0⟩) s0.length (by refine ⟨_,?_,0,(by omega),rfl,gi1,rfl⟩; exact Conv.keep [] [] [0,1,7,8] rfl rfl (qx rfl rfl (qx rfl (aM gf1k) (qx rfl rfl (qx rfl rfl qy)))) rfl rfl) ?_
 rintro _ _ ⟨i8,gj1,rfl,gg1,rfl⟩ gb1 gd1 gk1 ga1 gc1 hQ_1
 refine ah qv (ae (.bool (decide ((i8:Int) < (s0.length:Int)))) (aa (ak ?_)))
 rcases qq (decide ((i8:Int) < (s0.length:Int))) with hb2 | hb2
 ·rw [hb2]
  rw [bc hb2,F103l1] at gg1
  refine aq rfl (aT ?_)
  refine aU (gc1 _ ?_)
  subst gg1
  try dsimp only [cond_true,cond_false] at hR
  refine ah qv (af rfl (aa (aj ?_)))
  subst hR
  exact ai [] (.inr rfl) rfl rfl rfl rfl
 ·rw [hb2]
  obtain ⟨x8,hx1,hd1,hlt1⟩:=aR hb2
  rw [hd1,F103l1] at gg1
  refine ap rfl (aA (ak ?_))
  refine aI (fun _ hK3=>?_)
  refine ah qv (af rfl (af rfl (aa (ah qv (af rfl (af rfl (af rfl (aZ (c:=zz.c) (x:=x8) rfl rfl rfl (Int.natCast_nonneg _) hx1 (ae (.agg (zz.c x8)) ?_)))))))))
  generalize hc16:hf1 x8 = c16 at gg1
  try dsimp only at gg1
  refine cd (r:=.bool c16) rfl rfl rfl (gf1o x8 _ hc16) (closed3 gf1k.1 rfl gf1k.2) rfl (aa ?_)
  rcases qq (c16) with hb4 | hb4
  ·rw [hb4]; try simp only [hb4,bb] at gg1
   refine aq rfl (aA ?_)
   refine aB (am (hK3 _ ?_))
   refine az qv (ar (v':=.int .i64 ((i8 + 1:Nat):Int)) rfl rfl rfl rfl (congrArg (PVal.int .i64) (aO hlt1 ge1)) (af rfl (aa ?_)))
   refine aB (am ?_)
   refine ga1 _ (s0.length - (i8 + 1)) _ (by omega) ?_ ⟨i8 + 1,(by omega),rfl,gg1,rfl⟩
   exact Conv.keep [] [] [0,1,7,8] rfl rfl (qx rfl rfl (qx rfl (aM gf1k) (qx rfl rfl (qx rfl rfl qy)))) rfl rfl
  ·rw [hb4]; try simp only [hb4,bb] at gg1
   refine ap rfl (ah qv (af rfl (af rfl (aa (aj (aS ?_))))))
   refine aS (hQ_1 _ _ ?_)
   subst gg1
   subst hR
   exact ai [] (.inr rfl) rfl rfl rfl rfl
theorem f66_ok (s0:List zz) (gf1:FuncId) (gf1f gf1c:List PVal) (hf1:zz → Bool) (gf1k:PVal.closed.go gf1f = true ∧ PVal.closed.go gf1c = true) (gf1o : ∀ (y0:zz) (R:Bool),hf1 y0 = R → FnOk Tryz.prog gf1 (gf1f ++ [.agg (zz.c y0)] ++ gf1c) [] 0 (.bool R) [] 0) (R:Bool) (hR:F66 s0 hf1 = R):FnOk Tryz.prog 66 [.ro 3 (s0.map zz.c),.fn gf1 gf1f gf1c] [] 0 (.bool R) [] 0:=by
 refine FnOk.wk i66 rfl rfl ?_
 unfold F66 at hR
 change WK _ _ _ [ac66] _ ⟨[(0,.ro 3 (s0.map zz.c)),(1,.fn gf1 gf1f gf1c)],[],0⟩
 unfold ac66
 refine ah qv (af rfl (aa (ah qv (af rfl (af rfl ?_)))))
 generalize hc7:F103 s0 hf1 = c7 at hR
 try dsimp only at hR
 refine av (r:=.int .i64 c7) rfl rfl rfl (f103_ok s0 gf1 gf1f gf1c hf1 gf1k gf1o _ hc7) (bP rfl (bP (fR gf1k) rfl)) rfl (ae (.bool (decide (0 ≤ c7))) (af rfl (aa (aj ?_))))
 subst hR
 exact ai [] (.inr rfl) rfl rfl rfl rfl
theorem f67_ok (x0:zz) (a1:Int) (a2:Int) (R:Bool) (hR:F67 x0 a1 a2 = R):FnOk Tryz.prog 67 [.agg (zz.c x0),.rptr [.int .i64 a1],.rptr [.int .i64 a2]] [] 0 (.bool R) [] 0:=by
 refine FnOk.wk i67 rfl rfl ?_
 unfold F67 at hR
 change WK _ _ _ [ac67] _ ⟨[(0,.agg (zz.c x0)),(1,.rptr [.int .i64 a1]),(2,.rptr [.int .i64 a2])],[],0⟩
 unfold ac67
 refine ah qv (aw (v':=.ptr 0 0) (zj:=[(0,.box (zz.c x0))]) (zk:=1) rfl rfl rfl rfl rfl rfl rfl (af rfl (aa (ah qv (ae (.ptr 0 0) (ae (.int .i64 x0.From) (ae (.int .i64 a1) (ae (.bool (decide (x0.From = a1))) (af rfl ?_)))))))))
 rcases qq (decide (x0.From = a1)) with hb1 | hb1
 ·rw [hb1]; try simp only [hb1,bb] at hR
  iterate 4 refine ag rfl rfl ?_
  refine ae (.bool false) (af rfl (aa (aj ?_)))
  subst hR
  exact ai [] (.inr rfl) rfl rfl rfl rfl
 ·rw [hb1]; try simp only [hb1,bb] at hR
  refine ae (.ptr 0 1) (ae (.int .i64 x0.To) (ae (.int .i64 a2) (ae (.bool (decide (x0.To = a2))) (ae (.bool (decide (x0.To = a2))) (af rfl (aa (aj ?_)))))))
  subst hR
  exact ai [] (.inr rfl) rfl rfl rfl rfl
theorem f104_ok (x0:List zw) (target1:zw) (gcmp2:FuncId) (gcmp2f gcmp2c:List PVal) (hcmp2:zw → zw → Int) (gcmp2k:PVal.closed.go gcmp2f = true ∧ PVal.closed.go gcmp2c = true) (gcmp2o : ∀ (y0:zw) (y1:zw) (R:Int),hcmp2 y0 y1 = R → FnOk Tryz.prog gcmp2 (gcmp2f ++ [.agg (zw.c y0),.agg (zw.c y1)] ++ gcmp2c) [] 0 (.int .i64 R) [] 0) (R:Int × Bool) (hR:F104 x0 target1 hcmp2 = some R):FnOk Tryz.prog 104 [.ro 3 (x0.map zw.c),.agg (zw.c target1),.fn gcmp2 gcmp2f gcmp2c] [] 0 (.tup [.int .i64 R.1,.bool R.2]) [] 0:=by
 refine FnOk.wk i104 rfl rfl ?_
 unfold F104 at hR
 try dsimp only at hR
 change WK _ _ _ [ac104] _ ⟨[(0,.ro 3 (x0.map zw.c)),(1,.agg (zw.c target1)),(2,.fn gcmp2 gcmp2f gcmp2c)],[],0⟩
 unfold ac104
 refine ah qv (aw (v':=.ptr 0 0) (zj:=[(0,.box (zw.c target1))]) (zk:=1) rfl rfl rfl rfl rfl rfl rfl (af rfl (af rfl (aa (ah qv (af rfl (ar (v':=.int .i64 (x0.length:Int)) rfl rfl rfl rfl (ww _ _) (af rfl (aa (ah qv (af rfl (af rfl (af rfl ?_)))))))))))))
 refine aa (ak ?_)
 refine bq (t:=0) rfl (by simp) (fun hln0_13=>?_)
 rw [List.length_map] at hln0_13
 generalize gi13:F104l1 x0 target1 hcmp2 100 0 (x0.length:Int) = gh13 at hR
 refine aY (fun k s=>∃ (i9:Int) (j10:Int),F104l1 x0 target1 hcmp2 k i9 j10 = gh13 ∧ s = ⟨[(0,.ro 3 (x0.map zw.c)),(2,.fn gcmp2 gcmp2f gcmp2c),(4,.ptr 0 0),(8,.int .i64 (x0.length:Int)),(9,.int .i64 i9),(10,.int .i64 j10)],[(0,.box (zw.c target1))],1⟩) 100 (by refine ⟨_,?_,0,(x0.length:Int),gi13,rfl⟩; exact Conv.keep [0] [] [0,2,4,8,9,10] rfl rfl (qx rfl rfl (qx rfl (aM gcmp2k) (qx rfl rfl (qx rfl rfl (qx rfl rfl (qx rfl rfl qy)))))) rfl rfl) ?_
 rintro k13 _ ⟨i9,j10,gg13,rfl⟩ gb13 gd13 gk13 ga13 gc13 gf13
 rcases k13 with _ | f13
 ·unfold F104l1 at gg13
  subst gg13
  first | replace hR:=wz hR | replace hR:=aJ hR
  cases hR
 unfold F104l1 at gg13; try dsimp only at gg13
 refine ak (ah qv (af rfl (af rfl (ae (.bool (decide (i9 < j10))) (aa ?_)))))
 rcases qq (decide (i9 < j10)) with hb14 | hb14
 ·rw [hb14]; try simp only [hb14,bb] at gg13
  refine aq rfl (aT ?_)
  refine aU (gc13 _ ?_)
  subst gg13
  replace hR:=be hR; try dsimp only at hR
  refine ak (aE qv (aG rfl (aG rfl (aG rfl (au (.bool (decide (i9 < (x0.length:Int)))) (aG rfl ?_))))))
  rcases qq (decide (i9 < (x0.length:Int))) with hb15 | hb15
  ·rw [hb15]; first | replace hR:=kw hb15 hR | (try simp only [hb15,bb] at hR)
   iterate 8 refine bE rfl rfl ?_
   refine au (.bool false) (aG rfl (aG rfl (aH rfl (aj ?_))))
   obtain rfl:=Option.some.inj hR
   exact ai [] (.inr rfl) rfl rfl rfl rfl
  ·rw [hb15]; first | replace hR:=kz hb15 hR | (try simp only [hb15,bb] at hR)
   iterate 3 refine aG rfl ?_
   obtain ⟨x915,hx915,hR⟩:=wx hR; try dsimp only at hR
   obtain ⟨hx9150,hx915j,hx915l,hx915⟩:=ky hx915
   refine bn (c:=zw.c) (x:=x915) rfl rfl rfl hx9150 hx915 (au (.agg (zw.c x915)) (au (.agg (zw.c target1)) ?_))
   generalize hc46:hcmp2 x915 target1 = c46 at hR
   try dsimp only at hR
   refine bQ (r:=.int .i64 c46) rfl rfl rfl (gcmp2o x915 target1 _ hc46) (closed3 gcmp2k.1 rfl gcmp2k.2) rfl (au (.bool (decide (c46 = 0))) (au (.bool (decide (c46 = 0))) (aG rfl (aG rfl (aH rfl (aj ?_))))))
   obtain rfl:=Option.some.inj hR
   exact ai [] (.inr rfl) rfl rfl rfl rfl
 ·rw [hb14]; try simp only [hb14,bb] at gg13
  refine ap rfl (aA ?_)
  refine aI (fun _ hK17=>?_)
  refine ah qv (af rfl (af rfl (ae (.int .i64 (IntKind.i64.wrap (i9 + j10))) (ae (.int .u64 (IntKind.u64.wrap (IntKind.i64.wrap (i9 + j10)))) (ae (.int .u64 (Int.fdiv (IntKind.u64.wrap (IntKind.i64.wrap (i9 + j10))) (2 ^ 1))) (ae (.int .i64 (IntKind.i64.wrap (Int.fdiv (IntKind.u64.wrap (IntKind.i64.wrap (i9 + j10))) (2 ^ 1)))) (af rfl (aa (ak (aE qv (aG rfl (aG rfl (aG rfl ?_)))))))))))))
  rcases wy gg13 with ⟨_,gg13⟩ | ⟨x917,hx917,gg13⟩
  ·subst gg13
   first | replace hR:=wz hR | replace hR:=aJ hR
   cases hR
  try dsimp only at gg13
  obtain ⟨hx9170,hx917j,hx917l,hx917⟩:=ky hx917
  refine bn (c:=zw.c) (x:=x917) rfl rfl rfl hx9170 hx917 (au (.agg (zw.c x917)) (au (.agg (zw.c target1)) ?_))
  generalize hc30:hcmp2 x917 target1 = c30 at gg13
  try dsimp only at gg13
  refine bQ (r:=.int .i64 c30) rfl rfl rfl (gcmp2o x917 target1 _ hc30) (closed3 gcmp2k.1 rfl gcmp2k.2) rfl (au (.bool (decide (c30 < 0))) (aH rfl ?_))
  rcases qq (decide (c30 < 0)) with hb19 | hb19
  ·rw [hb19]; try simp only [hb19,bb] at gg13
   refine aq rfl (az qv (af rfl (af rfl (aa ?_))))
   refine aB (am (hK17 _ ?_))
   refine aB (am ?_)
   refine ga13 _ f13 _ (Nat.lt_succ_self _) ?_ ⟨i9,(IntKind.i64.wrap (Int.fdiv (IntKind.u64.wrap (IntKind.i64.wrap (i9 + j10))) (2 ^ 1))),gg13,rfl⟩
   exact Conv.keep [0] [] [0,2,4,8,9,10] rfl rfl (qx rfl rfl (qx rfl (aM gcmp2k) (qx rfl rfl (qx rfl rfl (qx rfl rfl (qx rfl rfl qy)))))) rfl rfl
  ·rw [hb19]; try simp only [hb19,bb] at gg13
   refine ap rfl (az qv (af rfl (ae (.int .i64 (IntKind.i64.wrap ((IntKind.i64.wrap (Int.fdiv (IntKind.u64.wrap (IntKind.i64.wrap (i9 + j10))) (2 ^ 1))) + 1))) (af rfl (aa ?_)))))
   refine aB (am (hK17 _ ?_))
   refine aB (am ?_)
   refine ga13 _ f13 _ (Nat.lt_succ_self _) ?_ ⟨(IntKind.i64.wrap ((IntKind.i64.wrap (Int.fdiv (IntKind.u64.wrap (IntKind.i64.wrap (i9 + j10))) (2 ^ 1))) + 1)),j10,gg13,rfl⟩
   exact Conv.keep [0] [] [0,2,4,8,9,10] rfl rfl (qx rfl rfl (qx rfl (aM gcmp2k) (qx rfl rfl (qx rfl rfl (qx rfl rfl (qx rfl rfl qy)))))) rfl rfl
theorem f125_ok (vals0:List Int) (R:Int) (hR:F125 vals0 = R):FnOk Tryz.prog 125 [.ro 1 (vals0.map co)] [] 0 (.int .i64 R) [] 0:=by
 refine FnOk.wk i125 rfl rfl ?_
 unfold F125 at hR
 change WK _ _ _ [ac125] _ ⟨[(0,.ro 1 (vals0.map co))],[],0⟩
 unfold ac125
 refine ah qv (af rfl (aa (ah qv (af rfl (aa (ak (ah qv (af rfl (ar (v':=.int .i64 (vals0.length:Int)) rfl rfl rfl rfl (ww _ _) (af rfl (aa ?_)))))))))))
 refine bq (t:=0) rfl (by simp) (fun ge1=>?_)
 rw [List.length_map] at ge1
 generalize gi1:F125l1 vals0 = gh1 at hR
 refine aY (fun k s=>∃ (i8:Nat),i8 ≤ vals0.length ∧ k = vals0.length - i8 ∧ F125l1 (vals0.drop i8) = gh1 ∧ s = ⟨[(3,.int .i64 0),(6,.ro 1 (vals0.map co)),(7,.int .i64 (vals0.length:Int)),(8,.int .i64 (i8:Int))],[],0⟩) vals0.length (by refine ⟨_,?_,0,(by omega),rfl,gi1,rfl⟩; exact Conv.keep [] [] [3,6,7,8] rfl rfl (qx rfl rfl (qx rfl rfl (qx rfl rfl (qx rfl rfl qy)))) rfl rfl) ?_
 rintro _ _ ⟨i8,gj1,rfl,gg1,rfl⟩ gb1 gd1 gk1 ga1 gc1 hQ_1
 refine ah qv (ae (.bool (decide ((i8:Int) < (vals0.length:Int)))) (aa (ak ?_)))
 rcases qq (decide ((i8:Int) < (vals0.length:Int))) with hb2 | hb2
 ·rw [hb2]
  rw [bc hb2,F125l1] at gg1
  refine aq rfl (aT ?_)
  refine aU (gc1 _ ?_)
  subst gg1
  try dsimp only [cond_true,cond_false] at hR
  refine ah qv (af rfl (af rfl (aa (aj ?_))))
  subst hR
  exact ai [] (.inr rfl) rfl rfl rfl rfl
 ·rw [hb2]
  obtain ⟨x8,hx1,hd1,hlt1⟩:=aR hb2
  rw [hd1,F125l1] at gg1
  refine ap rfl (aA (ak ?_))
  refine aI (fun _ hK3=>?_)
  refine ah qv (aZ (c:=co) (x:=x8) rfl rfl rfl (Int.natCast_nonneg _) hx1 (ae (.int .i64 x8) (af rfl (aa (ah qv (af rfl (af rfl (ae (.bool (!decide (x8 = 0))) (aa ?_)))))))))
  rcases qq (decide (x8 = 0)) with hb4 | hb4
  ·rw [hb4]; try simp only [hb4,bb] at gg1
   refine ap rfl (ah qv (af rfl (af rfl (aa (aj (aS ?_))))))
   refine aS (hQ_1 _ _ ?_)
   subst gg1
   subst hR
   exact ai [] (.inr rfl) rfl rfl rfl rfl
  ·rw [hb4]; try simp only [hb4,bb] at gg1
   refine aq rfl (aA ?_)
   refine aB (am (hK3 _ ?_))
   refine az qv (ar (v':=.int .i64 ((i8 + 1:Nat):Int)) rfl rfl rfl rfl (congrArg (PVal.int .i64) (aO hlt1 ge1)) (af rfl (aa ?_)))
   refine aB (am ?_)
   refine ga1 _ (vals0.length - (i8 + 1)) _ (by omega) ?_ ⟨i8 + 1,(by omega),rfl,gg1,rfl⟩
   exact Conv.keep [] [] [3,6,7,8] rfl rfl (qx rfl rfl (qx rfl rfl (qx rfl rfl (qx rfl rfl qy)))) rfl rfl
theorem f153_ok (x0:Int) (R:Bool) (hR:F153 x0 = R):FnOk Tryz.prog 153 [.int .u32 x0] [] 0 (.bool R) [] 0:=by
 refine FnOk.wk i153 rfl rfl ?_
 unfold F153 at hR
 change WK _ _ _ [ac153] _ ⟨[(0,.int .u32 x0)],[],0⟩
 unfold ac153
 refine ah qv (af rfl (aa (ah qv (af rfl (af rfl (ae (.bool (!decide (x0 = x0))) (af rfl (aa (aj ?_)))))))))
 subst hR
 exact ai [] (.inr rfl) rfl rfl rfl rfl
theorem f126_ok (x0:Int) (y1:Int) (R:Int) (hR:F126 x0 y1 = R):FnOk Tryz.prog 126 [.int .u32 x0,.int .u32 y1] [] 0 (.int .i64 R) [] 0:=by
 refine FnOk.wk i126 rfl rfl ?_
 unfold F126 at hR
 change WK _ _ _ [ac126] _ ⟨[(0,.int .u32 x0),(1,.int .u32 y1)],[],0⟩
 unfold ac126
 refine ah qv (af rfl (aa (ah qv (af rfl ?_))))
 generalize hc8:F153 x0 = c8 at hR
 try dsimp only at hR
 refine av (r:=.bool c8) rfl rfl rfl (f153_ok x0 _ hc8) rfl rfl (af rfl (aa (ah qv (af rfl ?_))))
 generalize hc10:F153 y1 = c10 at hR
 try dsimp only at hR
 refine av (r:=.bool c10) rfl rfl rfl (f153_ok y1 _ hc10) rfl rfl (af rfl (aa (ak (ah qv (af rfl (aa ?_))))))
 rcases qq (c8) with hb1 | hb1
 ·rw [hb1]; try simp only [hb1,bb] at hR
  refine aq rfl (aA (ak (ah qv (af rfl (aa ?_)))))
  rcases qq (c10) with hb2 | hb2
  ·rw [hb2]; try simp only [hb2,bb] at hR
   refine aq rfl (aA (ak (ah qv (af rfl (af rfl (ae (.bool (decide (x0 < y1))) (aa ?_)))))))
   rcases qq (decide (x0 < y1)) with hb3 | hb3
   ·rw [hb3]; try simp only [hb3,bb] at hR
    refine aq rfl (aA (ak (ah qv (af rfl (af rfl (ae (.bool (decide (y1 < x0))) (aa ?_)))))))
    rcases qq (decide (y1 < x0)) with hb4 | hb4
    ·rw [hb4]; try simp only [hb4,bb] at hR
     refine aq rfl (aA (ah qv (af rfl (aa (aj ?_)))))
     subst hR
     exact ai [] (.inr rfl) rfl rfl rfl rfl
    ·rw [hb4]; try simp only [hb4,bb] at hR
     refine ap rfl (ah qv (af rfl (aa (aj ?_))))
     subst hR
     exact ai [] (.inr rfl) rfl rfl rfl rfl
   ·rw [hb3]; try simp only [hb3,bb] at hR
    refine ap rfl (ah qv (af rfl (aa (aj ?_))))
    subst hR
    exact ai [] (.inr rfl) rfl rfl rfl rfl
  ·rw [hb2]; try simp only [hb2,bb] at hR
   refine ap rfl (ah qv (af rfl (aa (aj ?_))))
   subst hR
   exact ai [] (.inr rfl) rfl rfl rfl rfl
 ·rw [hb1]; try simp only [hb1,bb] at hR
  refine ap rfl (ak (ah qv (af rfl (aa ?_))))
  rcases qq (c10) with hb5 | hb5
  ·rw [hb5]; try simp only [hb5,bb] at hR
   refine aq rfl (aA (ah qv (af rfl (aa (aj ?_)))))
   subst hR
   exact ai [] (.inr rfl) rfl rfl rfl rfl
  ·rw [hb5]; try simp only [hb5,bb] at hR
   refine ap rfl (ah qv (af rfl (aa (aj ?_))))
   subst hR
   exact ai [] (.inr rfl) rfl rfl rfl rfl
theorem f154_ok (x0:Int) (R:Bool) (hR:F154 x0 = R):FnOk Tryz.prog 154 [.int .i64 x0] [] 0 (.bool R) [] 0:=by
 refine FnOk.wk i154 rfl rfl ?_
 unfold F154 at hR
 change WK _ _ _ [ac154] _ ⟨[(0,.int .i64 x0)],[],0⟩
 unfold ac154
 refine ah qv (af rfl (aa (ah qv (af rfl (af rfl (ae (.bool (!decide (x0 = x0))) (af rfl (aa (aj ?_)))))))))
 subst hR
 exact ai [] (.inr rfl) rfl rfl rfl rfl
theorem f127_ok (x0:Int) (y1:Int) (R:Int) (hR:F127 x0 y1 = R):FnOk Tryz.prog 127 [.int .i64 x0,.int .i64 y1] [] 0 (.int .i64 R) [] 0:=by
 refine FnOk.wk i127 rfl rfl ?_
 unfold F127 at hR
 change WK _ _ _ [ac127] _ ⟨[(0,.int .i64 x0),(1,.int .i64 y1)],[],0⟩
 unfold ac127
 refine ah qv (af rfl (aa (ah qv (af rfl ?_))))
 generalize hc8:F154 x0 = c8 at hR
 try dsimp only at hR
 refine av (r:=.bool c8) rfl rfl rfl (f154_ok x0 _ hc8) rfl rfl (af rfl (aa (ah qv (af rfl ?_))))
 generalize hc10:F154 y1 = c10 at hR
 try dsimp only at hR
 refine av (r:=.bool c10) rfl rfl rfl (f154_ok y1 _ hc10) rfl rfl (af rfl (aa (ak (ah qv (af rfl (aa ?_))))))
 rcases qq (c8) with hb1 | hb1
 ·rw [hb1]; try simp only [hb1,bb] at hR
  refine aq rfl (aA (ak (ah qv (af rfl (aa ?_)))))
  rcases qq (c10) with hb2 | hb2
  ·rw [hb2]; try simp only [hb2,bb] at hR
   refine aq rfl (aA (ak (ah qv (af rfl (af rfl (ae (.bool (decide (x0 < y1))) (aa ?_)))))))
   rcases qq (decide (x0 < y1)) with hb3 | hb3
   ·rw [hb3]; try simp only [hb3,bb] at hR
    refine aq rfl (aA (ak (ah qv (af rfl (af rfl (ae (.bool (decide (y1 < x0))) (aa ?_)))))))
    rcases qq (decide (y1 < x0)) with hb4 | hb4
    ·rw [hb4]; try simp only [hb4,bb] at hR
     refine aq rfl (aA (ah qv (af rfl (aa (aj ?_)))))
     subst hR
     exact ai [] (.inr rfl) rfl rfl rfl rfl
    ·rw [hb4]; try simp only [hb4,bb] at hR
     refine ap rfl (ah qv (af rfl (aa (aj ?_))))
     subst hR
     exact ai [] (.inr rfl) rfl rfl rfl rfl
   ·rw [hb3]; try simp only [hb3,bb] at hR
    refine ap rfl (ah qv (af rfl (aa (aj ?_))))
    subst hR
    exact ai [] (.inr rfl) rfl rfl rfl rfl
  ·rw [hb2]; try simp only [hb2,bb] at hR
   refine ap rfl (ah qv (af rfl (aa (aj ?_))))
   subst hR
   exact ai [] (.inr rfl) rfl rfl rfl rfl
 ·rw [hb1]; try simp only [hb1,bb] at hR
  refine ap rfl (ak (ah qv (af rfl (aa ?_))))
  rcases qq (c10) with hb5 | hb5
  ·rw [hb5]; try simp only [hb5,bb] at hR
   refine aq rfl (aA (ah qv (af rfl (aa (aj ?_)))))
   subst hR
   exact ai [] (.inr rfl) rfl rfl rfl rfl
  ·rw [hb5]; try simp only [hb5,bb] at hR
   refine ap rfl (ah qv (af rfl (aa (aj ?_))))
   subst hR
   exact ai [] (.inr rfl) rfl rfl rfl rfl
theorem f105_ok (a0:zw) (b1:zw) (R:Int) (hR:F105 a0 b1 = R):FnOk Tryz.prog 105 [.agg (zw.c a0),.agg (zw.c b1)] [] 0 (.int .i64 R) [] 0:=by
 refine FnOk.wk i105 rfl rfl ?_
 unfold F105 at hR
 change WK _ _ _ [ac105] _ ⟨[(0,.agg (zw.c a0)),(1,.agg (zw.c b1))],[],0⟩
 unfold ac105
 refine ah qv (aw (v':=.ptr 0 0) (zj:=[(0,.box (zw.c a0))]) (zk:=1) rfl rfl rfl rfl rfl rfl rfl (aw (v':=.ptr 1 0) (zj:=[(0,.box (zw.c a0)),(1,.box (zw.c b1))]) (zk:=2) rfl rfl rfl rfl rfl rfl rfl (af rfl (aa (ak (aE qv (au (.ptr 0 0) (au (.int .i64 a0.At) (au (.ptr 1 0) (au (.int .i64 b1.At) ?_))))))))))
 generalize hc9:F127 a0.At b1.At = c9 at hR
 try dsimp only at hR
 refine aL (r:=.int .i64 c9) rfl rfl rfl (f127_ok a0.At b1.At _ hc9) rfl rfl (au (.ptr 0 1) (au (.ptr 0 1) (au (.int .u32 a0.P.A) (au (.ptr 1 1) (au (.ptr 1 1) (au (.int .u32 b1.P.A) ?_))))))
 generalize hc16:F126 a0.P.A b1.P.A = c16 at hR
 try dsimp only at hR
 refine aL (r:=.int .i64 c16) rfl rfl rfl (f126_ok a0.P.A b1.P.A _ hc16) rfl rfl (au (.ptr 0 1) (au (.ptr 0 2) (au (.int .i64 a0.P.N) (au (.ptr 1 1) (au (.ptr 1 2) (au (.int .i64 b1.P.N) ?_))))))
 generalize hc23:F127 a0.P.N b1.P.N = c23 at hR
 try dsimp only at hR
 refine aL (r:=.int .i64 c23) rfl rfl rfl (f127_ok a0.P.N b1.P.N _ hc23) rfl rfl (bj (v':=.own 2 1 0 (([c9,c16,c23]:List Int)).length) (zj:=[(0,.box (zw.c a0)),(1,.box (zw.c b1)),(2,.row 1 3 (([c9,c16,c23]:List Int).map co))]) (zk:=3) rfl rfl rfl rfl rfl rfl rfl ?_)
 generalize hc25:F125 ([c9,c16,c23]:List Int) = c25 at hR
 try dsimp only at hR
 refine dx (r:=.int .i64 c25) [2] rfl rfl rfl (qz (aN rfl rfl) qw) (f125_ok ([c9,c16,c23]:List Int) _ hc25) rfl rfl (aG rfl (aH rfl (aj ?_)))
 subst hR
 exact ai [] (.inr rfl) rfl rfl rfl rfl
theorem f68_ok (n0:TNet) (at1:Int) (p2:zy) (R:TNet) (hR:F68 n0 at1 p2 = some R):FnOk Tryz.prog 68 [.ptr 0 0,.int .i64 at1,.agg (zy.c p2)] [(0,.box [.own 1 1 0 n0.T.length,.own 2 1 0 n0.Sel.length,.ro 3 (n0.L.map zz.c),.own 3 3 0 n0.Work.length,.bool n0.Over]),(1,.row 1 36 (n0.T.map qk.c)),(2,.row 1 34 (n0.Sel.map (wv 10 qj.c))),(3,.row 3 108 (n0.Work.map zw.c))] 4 (.tup []) [(0,.box [.own 4 1 0 R.T.length,.own 5 1 0 R.Sel.length,.ro 3 (R.L.map zz.c),.own 6 3 0 R.Work.length,.bool R.Over]),(4,.row 1 36 (R.T.map qk.c)),(5,.row 1 34 (R.Sel.map (wv 10 qj.c))),(6,.row 3 108 (R.Work.map zw.c))] 7:=by
 refine FnOk.wk i68 rfl rfl ?_
 unfold F68 at hR
 try dsimp only at hR
 change WK _ _ _ [ac68] _ ⟨[(0,.ptr 0 0),(1,.int .i64 at1),(2,.agg (zy.c p2))],[(0,.box [.own 1 1 0 n0.T.length,.own 2 1 0 n0.Sel.length,.ro 3 (n0.L.map zz.c),.own 3 3 0 n0.Work.length,.bool n0.Over]),(1,.row 1 36 (n0.T.map qk.c)),(2,.row 1 34 (n0.Sel.map (wv 10 qj.c))),(3,.row 3 108 (n0.Work.map zw.c))],4⟩
 unfold ac68
 refine fU (id:=0) (j:=0) (zj:=[(0,.box [.own 4 1 0 n0.T.length,.own 2 1 0 n0.Sel.length,.ro 3 (n0.L.map zz.c),.own 3 3 0 n0.Work.length,.bool n0.Over]),(2,.row 1 34 (n0.Sel.map (wv 10 qj.c))),(3,.row 3 108 (n0.Work.map zw.c)),(4,.row 1 36 (n0.T.map qk.c))]) rfl rfl rfl (by simp) rfl (fU (id:=0) (j:=1) (zj:=[(0,.box [.own 4 1 0 n0.T.length,.own 5 1 0 n0.Sel.length,.ro 3 (n0.L.map zz.c),.own 3 3 0 n0.Work.length,.bool n0.Over]),(3,.row 3 108 (n0.Work.map zw.c)),(4,.row 1 36 (n0.T.map qk.c)),(5,.row 1 34 (n0.Sel.map (wv 10 qj.c)))]) rfl rfl rfl (by simp) rfl (fU (id:=0) (j:=3) (zj:=[(0,.box [.own 4 1 0 n0.T.length,.own 5 1 0 n0.Sel.length,.ro 3 (n0.L.map zz.c),.own 6 3 0 n0.Work.length,.bool n0.Over]),(4,.row 1 36 (n0.T.map qk.c)),(5,.row 1 34 (n0.Sel.map (wv 10 qj.c))),(6,.row 3 108 (n0.Work.map zw.c))]) rfl rfl rfl (by simp) rfl (ah qv (aw (v':=.ptr 7 0) (zj:=[(0,.box [.own 4 1 0 n0.T.length,.own 5 1 0 n0.Sel.length,.ro 3 (n0.L.map zz.c),.own 6 3 0 n0.Work.length,.bool n0.Over]),(4,.row 1 36 (n0.T.map qk.c)),(5,.row 1 34 (n0.Sel.map (wv 10 qj.c))),(6,.row 3 108 (n0.Work.map zw.c)),(7,.box (zy.c p2))]) (zk:=8) rfl rfl rfl rfl rfl rfl rfl (aa (ah qv (af rfl (ae (.agg (zy.c p2)) (ae (.agg [.int .i64 at1,.int .u32 p2.A,.int .i64 p2.N]) (aw (v':=.ptr 8 0) (zj:=[(0,.box [.own 4 1 0 n0.T.length,.own 5 1 0 n0.Sel.length,.ro 3 (n0.L.map zz.c),.own 6 3 0 n0.Work.length,.bool n0.Over]),(4,.row 1 36 (n0.T.map qk.c)),(5,.row 1 34 (n0.Sel.map (wv 10 qj.c))),(6,.row 3 108 (n0.Work.map zw.c)),(7,.box (zy.c p2)),(8,.box [.int .i64 0,.int .u32 0,.int .i64 0])]) (zk:=9) rfl rfl rfl rfl rfl rfl rfl (ay (zj:=[(0,.box [.own 4 1 0 n0.T.length,.own 5 1 0 n0.Sel.length,.ro 3 (n0.L.map zz.c),.own 6 3 0 n0.Work.length,.bool n0.Over]),(4,.row 1 36 (n0.T.map qk.c)),(5,.row 1 34 (n0.Sel.map (wv 10 qj.c))),(6,.row 3 108 (n0.Work.map zw.c)),(7,.box (zy.c p2)),(8,.box [.int .i64 at1,.int .u32 p2.A,.int .i64 p2.N])]) (zk:=9) rfl rfl rfl rfl rfl (aa (ak ?_)))))))))))))
 refine aE qv (aG rfl (au (.ptr 0 0) (au (.ptr 0 3) (au (.own 6 3 0 n0.Work.length) (au (.agg [.int .i64 at1,.int .u32 p2.A,.int .i64 p2.N]) ?_)))))
 obtain ⟨c18,hc18,hR⟩:=wx hR; try dsimp only at hR
 refine dx (r:=.tup [.int .i64 c18.1,.bool c18.2]) [6] rfl rfl rfl (qz (aN rfl rfl) (qz rfl (qz rfl qw))) (f104_ok n0.Work (⟨at1,p2⟩ : zw) 105 [] [] (fun y0 y1=>F105 y0 y1) ⟨rfl,rfl⟩ (fun y0 y1 _ hr=>f105_ok y0 y1 _ hr) _ hc18) rfl rfl (aG rfl (au (.int .i64 c18.1) (au (.bool c18.2) (aG rfl (aG rfl (aH rfl (ah qv (af rfl (ae (.bool (!c18.2)) (aa ?_))))))))))
 rcases qq (c18.2) with hb1 | hb1
 ·rw [hb1]; first | replace hR:=kw hb1 hR | (try simp only [hb1,bb] at hR)
  refine ap rfl (aE qv (aG rfl (aG rfl (au (.ptr 0 0) (au (.ptr 0 3) (au (.own 6 3 0 n0.Work.length) (aG rfl (au (.agg [.int .i64 at1,.int .u32 p2.A,.int .i64 p2.N]) (bj (v':=.own 9 3 0 (([(⟨at1,p2⟩ : zw)]:List zw)).length) (zj:=[(0,.box [.own 4 1 0 n0.T.length,.own 5 1 0 n0.Sel.length,.ro 3 (n0.L.map zz.c),.own 6 3 0 n0.Work.length,.bool n0.Over]),(4,.row 1 36 (n0.T.map qk.c)),(5,.row 1 34 (n0.Sel.map (wv 10 qj.c))),(6,.row 3 108 (n0.Work.map zw.c)),(7,.box (zy.c p2)),(8,.box [.int .i64 at1,.int .u32 p2.A,.int .i64 p2.N]),(9,.row 3 108 (([(⟨at1,p2⟩ : zw)]:List zw).map zw.c))]) (zk:=10) rfl rfl rfl rfl rfl rfl rfl ?_)))))))))
  obtain ⟨hg2,hg2_,hR⟩:=gd hR; try dsimp only at hR
  obtain ⟨hg3,hg3_,hR⟩:=gd hR; try dsimp only at hR
  obtain ⟨hg4,hg4_,hR⟩:=gd hR; try dsimp only at hR
  refine fx (r':=.own 10 3 0 (db n0.Work c18.1 ([(⟨at1,p2⟩ : zw)]:List zw)).length) (zj:=[(0,.box [.own 4 1 0 n0.T.length,.own 5 1 0 n0.Sel.length,.ro 3 (n0.L.map zz.c),.own 6 3 0 n0.Work.length,.bool n0.Over]),(4,.row 1 36 (n0.T.map qk.c)),(5,.row 1 34 (n0.Sel.map (wv 10 qj.c))),(7,.box (zy.c p2)),(8,.box [.int .i64 at1,.int .u32 p2.A,.int .i64 p2.N]),(10,.row 3 108 ((db n0.Work c18.1 ([(⟨at1,p2⟩ : zw)]:List zw)).map zw.c))]) (zk:=11) [6,9] [] rfl rfl rfl rfl rfl rfl (eQ (c:=zw.c) (fun _=>rfl) qv i106 ov106 n0.Work ([(⟨at1,p2⟩ : zw)]:List zw) c18.1 rfl rfl (by omega) (by omega) (by (simp; done)) (by ((try simp only [List.length_append,List.length_cons,List.length_nil,List.length_map,decide_eq_true_eq,decide_eq_false_iff_not] at *) <;> omega)) (by ((try simp only [List.length_append,List.length_cons,List.length_nil,List.length_map,decide_eq_true_eq,decide_eq_false_iff_not] at *) <;> omega))) (.inl rfl) rfl rfl rfl (au (.ptr 0 0) (au (.ptr 0 3) (aV (zj:=[(0,.box [.own 4 1 0 n0.T.length,.own 5 1 0 n0.Sel.length,.ro 3 (n0.L.map zz.c),.own 10 3 0 (db n0.Work c18.1 ([(⟨at1,p2⟩ : zw)]:List zw)).length,.bool n0.Over]),(4,.row 1 36 (n0.T.map qk.c)),(5,.row 1 34 (n0.Sel.map (wv 10 qj.c))),(7,.box (zy.c p2)),(8,.box [.int .i64 at1,.int .u32 p2.A,.int .i64 p2.N]),(10,.row 3 108 ((db n0.Work c18.1 ([(⟨at1,p2⟩ : zw)]:List zw)).map zw.c))]) (zk:=11) rfl rfl rfl rfl rfl (aH rfl (aB ?_)))))
  obtain rfl:=Option.some.inj hR
  exact RetQ.ret [0,1,2,3,4,5,10] [] (.inl rfl) rfl rfl rfl rfl rfl .refl rfl
 ·rw [hb1]; first | replace hR:=kz hb1 hR | (try simp only [hb1,bb] at hR)
  refine aq rfl (aA (aB ?_))
  obtain rfl:=Option.some.inj hR
  exact RetQ.ret [0,1,2,3,4,5,6] [] (.inl rfl) rfl rfl rfl rfl rfl .refl rfl
theorem f25_ok (n0:TNet) (from1:Int) (to2:Int) (m3:List zx) (R:TNet × Int) (hR:F25 n0 from1 to2 m3 = some R):FnOk Tryz.prog 25 [.agg (TNet.c n0),.int .i64 from1,.int .i64 to2,.ro 12 (m3.map zx.c)] [] 0 (.tup [.agg (TNet.c R.1),.int .i64 R.2]) [] 0:=by
 refine FnOk.wk i25 rfl rfl ?_
 unfold F25 at hR
 try dsimp only at hR
 change WK _ _ _ [ac25] _ ⟨[(0,.agg (TNet.c n0)),(1,.int .i64 from1),(2,.int .i64 to2),(3,.ro 12 (m3.map zx.c))],[],0⟩
 unfold ac25
 refine ah qv (aw (v':=.ptr 0 0) (zj:=[(0,.box (TNet.c n0))]) (zk:=1) rfl rfl rfl rfl rfl rfl rfl (aw (v':=.ptr 1 0) (zj:=[(0,.box (TNet.c n0)),(1,.box [.int .i64 from1])]) (zk:=2) rfl rfl rfl rfl rfl rfl rfl (aw (v':=.ptr 2 0) (zj:=[(0,.box (TNet.c n0)),(1,.box [.int .i64 from1]),(2,.box [.int .i64 to2])]) (zk:=3) rfl rfl rfl rfl rfl rfl rfl (aw (v':=.ptr 3 0) (zj:=[(0,.box (TNet.c n0)),(1,.box [.int .i64 from1]),(2,.box [.int .i64 to2]),(3,.box [.nils,.nils,.nils,.nils,.bool false])]) (zk:=4) rfl rfl rfl rfl rfl rfl rfl (af rfl (aa (ak (ah qv (ae (.agg (TNet.c n0)) (ae (.int .i64 from1) ?_))))))))))
 obtain ⟨c15,hc15,hR⟩:=wx hR; try dsimp only at hR
 try dsimp only at hR
 refine av (r:=.bool c15) rfl rfl rfl (f64_ok n0 from1 _ hc15) rfl rfl (ae (.bool (!c15)) (af rfl ?_))
 rcases qq (c15) with hb1 | hb1
 ·rw [hb1]; first | replace hR:=kw hb1 hR | (try simp only [hb1,bb] at hR)
  iterate 4 refine ag rfl rfl ?_
  refine ae (.bool true) (af rfl (ag rfl rfl (ag rfl rfl (ag rfl rfl (ae (.bool true) (af rfl (ag rfl rfl (ag rfl rfl (ag rfl rfl (ae (.bool true) (aa (ap rfl (ah qv ?_)))))))))))))
  refine ae (.agg (TNet.c n0)) (ay (zj:=[(0,.box (TNet.c n0)),(1,.box [.int .i64 from1]),(2,.box [.int .i64 to2]),(3,.box (TNet.c n0))]) (zk:=4) rfl rfl rfl rfl rfl (af rfl (aa (aj ?_))))
  obtain rfl:=Option.some.inj hR
  exact ai [] (.inr rfl) rfl rfl rfl rfl
 ·rw [hb1]; first | replace hR:=kz hb1 hR | (try simp only [hb1,bb] at hR)
  refine ae (.agg (TNet.c n0)) (ae (.int .i64 to2) ?_)
  obtain ⟨c20,hc20,hR⟩:=wx hR; try dsimp only at hR
  try dsimp only at hR
  refine av (r:=.bool c20) rfl rfl rfl (f64_ok n0 to2 _ hc20) rfl rfl (ae (.bool (!c20)) (ae (.bool (!c20)) (af rfl ?_)))
  rcases qq (c20) with hb2 | hb2
  ·rw [hb2]; first | replace hR:=kw hb2 hR | (try simp only [hb2,bb] at hR)
   refine ag rfl rfl (ag rfl rfl (ag rfl rfl (ae (.bool true) (af rfl (ag rfl rfl (ag rfl rfl (ag rfl rfl (ae (.bool true) (aa (ap rfl (ah qv (ae (.agg (TNet.c n0)) (ay (zj:=[(0,.box (TNet.c n0)),(1,.box [.int .i64 from1]),(2,.box [.int .i64 to2]),(3,.box (TNet.c n0))]) (zk:=4) rfl rfl rfl rfl rfl ?_)))))))))))))
   refine af rfl (aa (aj ?_))
   obtain rfl:=Option.some.inj hR
   exact ai [] (.inr rfl) rfl rfl rfl rfl
  ·rw [hb2]; first | replace hR:=kz hb2 hR | (try simp only [hb2,bb] at hR)
   refine ae (.int .i64 from1) (ae (.int .i64 to2) (ae (.bool (decide (from1 = to2))) (ae (.bool (decide (from1 = to2))) (af rfl ?_))))
   rcases qq (decide (from1 = to2)) with hb3 | hb3
   ·rw [hb3]; first | replace hR:=kw hb3 hR | (try simp only [hb3,bb] at hR)
    refine af rfl ?_
    generalize hc30:F65 m3 = c30 at hR
    try dsimp only at hR
    refine av (r:=.bool c30) rfl rfl rfl (f65_ok m3 _ hc30) rfl rfl (ae (.bool (!c30)) (ae (.bool (!c30)) (aa ?_)))
    rcases qq (c30) with hb4 | hb4
    ·rw [hb4]; first | replace hR:=kw hb4 hR | (try simp only [hb4,bb] at hR)
     refine ap rfl (ah qv (ae (.agg (TNet.c n0)) (ay (zj:=[(0,.box (TNet.c n0)),(1,.box [.int .i64 from1]),(2,.box [.int .i64 to2]),(3,.box (TNet.c n0))]) (zk:=4) rfl rfl rfl rfl rfl (af rfl (aa (aj ?_))))))
     obtain rfl:=Option.some.inj hR
     exact ai [] (.inr rfl) rfl rfl rfl rfl
    ·rw [hb4]; first | replace hR:=kz hb4 hR | (try simp only [hb4,bb] at hR)
     refine aq rfl (aA (ak (ah qv (ae (.ptr 0 2) (ae (.ro 3 (n0.L.map zz.c)) (ae (.fn 67 [] [.ptr 1 0,.ptr 2 0]) ?_))))))
     generalize hc37:F66 n0.L (fun y0=>F67 y0 from1 to2) = c37 at hR
     try dsimp only at hR
     refine dy (r:=.bool c37) [1,2] rfl rfl rfl rfl (f66_ok n0.L 67 [] [.rptr [.int .i64 from1],.rptr [.int .i64 to2]] (fun y0=>F67 y0 from1 to2) ⟨rfl,rfl⟩ (fun y0 _ hr=>f67_ok y0 from1 to2 _ hr) _ hc37) rfl rfl (aa ?_)
     rcases qq (c37) with hb5 | hb5
     ·rw [hb5]; first | replace hR:=kw hb5 hR | (try simp only [hb5,bb] at hR)
      refine aq rfl (aA (ah qv (ae (.agg (TNet.c n0)) ?_)))
      obtain ⟨c40,hc40,hR⟩:=wx hR; try dsimp only at hR
      try dsimp only at hR
      refine bd (r':=.ptr 4 0) (zj:=[(0,.box (TNet.c n0)),(1,.box [.int .i64 from1]),(2,.box [.int .i64 to2]),(3,.box [.nils,.nils,.nils,.nils,.bool false]),(8,.row 3 108 (c40.Work.map zw.c)),(7,.row 3 84 (c40.L.map zz.c)),(6,.row 1 34 (c40.Sel.map (wv 10 qj.c))),(5,.row 1 36 (c40.T.map qk.c)),(4,.box [.own 5 1 0 c40.T.length,.own 6 1 0 c40.Sel.length,.own 7 3 0 c40.L.length,.own 8 3 0 c40.Work.length,.bool c40.Over])]) (zk:=9) [] [] rfl rfl rfl rfl rfl rfl (f41_ok n0 _ hc40) (.inl rfl) rfl rfl rfl (af rfl (aa (ak (aE qv (aG rfl (aG rfl (au (.ptr 4 0) (au (.ptr 4 2) (au (.own 7 3 0 c40.L.length) (au (.int .i64 from1) (au (.int .i64 to2) (aG rfl (au (.agg [.int .i64 from1,.int .i64 to2,.ro 12 (m3.map zx.c)]) ?_)))))))))))))
      refine bj (v':=.own 9 3 0 (([(⟨from1,to2,m3⟩ : zz)]:List zz)).length) (zj:=[(0,.box (TNet.c n0)),(1,.box [.int .i64 from1]),(2,.box [.int .i64 to2]),(3,.box [.nils,.nils,.nils,.nils,.bool false]),(8,.row 3 108 (c40.Work.map zw.c)),(7,.row 3 84 (c40.L.map zz.c)),(6,.row 1 34 (c40.Sel.map (wv 10 qj.c))),(5,.row 1 36 (c40.T.map qk.c)),(4,.box [.own 5 1 0 c40.T.length,.own 6 1 0 c40.Sel.length,.own 7 3 0 c40.L.length,.own 8 3 0 c40.Work.length,.bool c40.Over]),(9,.row 3 84 (([(⟨from1,to2,m3⟩ : zz)]:List zz).map zz.c))]) (zk:=10) rfl rfl rfl rfl rfl rfl rfl ?_
      obtain ⟨hg7,hg7_,hR⟩:=gd hR; try dsimp only at hR
      refine RD.appT (c:=zz.c) (L:=c40.L) (X:=([(⟨from1,to2,m3⟩ : zz)]:List zz)) (zj:=[(0,.box (TNet.c n0)),(1,.box [.int .i64 from1]),(2,.box [.int .i64 to2]),(3,.box [.nils,.nils,.nils,.nils,.bool false]),(8,.row 3 108 (c40.Work.map zw.c)),(6,.row 1 34 (c40.Sel.map (wv 10 qj.c))),(5,.row 1 36 (c40.T.map qk.c)),(4,.box [.own 5 1 0 c40.T.length,.own 6 1 0 c40.Sel.length,.own 7 3 0 c40.L.length,.own 8 3 0 c40.Work.length,.bool c40.Over]),(9,.row 3 84 (([(⟨from1,to2,m3⟩ : zz)]:List zz).map zz.c)),(10,.row 3 84 ((c40.L ++ ([(⟨from1,to2,m3⟩ : zz)]:List zz)).map zz.c))]) (zk:=11) rfl rfl rfl rfl (du rfl) (by ((try simp only [List.length_append,List.length_cons,List.length_nil,List.length_map,decide_eq_true_eq,decide_eq_false_iff_not] at *) <;> omega)) (by ((try simp only [List.length_append,List.length_cons,List.length_nil,List.length_map,decide_eq_true_eq,decide_eq_false_iff_not] at *) <;> omega)) rfl rfl rfl rfl (au (.ptr 4 0) (au (.ptr 4 2) (aV (zj:=[(0,.box (TNet.c n0)),(1,.box [.int .i64 from1]),(2,.box [.int .i64 to2]),(3,.box [.nils,.nils,.nils,.nils,.bool false]),(8,.row 3 108 (c40.Work.map zw.c)),(6,.row 1 34 (c40.Sel.map (wv 10 qj.c))),(5,.row 1 36 (c40.T.map qk.c)),(4,.box [.own 5 1 0 c40.T.length,.own 6 1 0 c40.Sel.length,.own 10 3 0 (c40.L ++ ([(⟨from1,to2,m3⟩ : zz)]:List zz)).length,.own 8 3 0 c40.Work.length,.bool c40.Over]),(9,.row 3 84 (([(⟨from1,to2,m3⟩ : zz)]:List zz).map zz.c)),(10,.row 3 84 ((c40.L ++ ([(⟨from1,to2,m3⟩ : zz)]:List zz)).map zz.c))]) (zk:=11) rfl rfl rfl rfl rfl (aH rfl (ak (ak (aE qv (aG rfl (au (.ptr 4 0) (au (.ptr 4 0) (au (.own 5 1 0 c40.T.length) (au (.int .i64 from1) ?_))))))))))))
      obtain ⟨x907,hx907,hR⟩:=wx hR; try dsimp only at hR
      obtain ⟨hx9070,hx907j,hx907l,hx907⟩:=ky hx907
      refine aF (v':=.eptr 5 1 from1.toNat 0) rfl rfl rfl (aK (c:=qk.c) (L:=c40.T) (j:=from1.toNat) rfl hx907j hx907l (by exact Nat.le_refl _)) rfl (aF (v':=.eptr 5 1 from1.toNat 0) rfl rfl rfl (cy (c:=qk.c) (L:=c40.T) rfl (by omega) rfl) rfl (aF (v':=.ro 10 (x907.L.map qj.c)) rfl rfl rfl (bf (c:=qk.c) (L:=c40.T) (x:=x907) rfl hx907 rfl) rfl (aF (v':=.int .i64 (x907.L.length:Int)) rfl rfl rfl rfl (ww _ _) (aG rfl (aH rfl ?_)))))
      refine bz (st':=⟨[(5,.ptr 0 0),(8,.ptr 1 0),(10,.ptr 2 0),(61,.ro 10 (x907.L.map qj.c)),(62,.int .i64 (x907.L.length:Int)),(63,.int .i64 0)],[(0,.box [.int .i64 from1]),(1,.box [.nils,.nils,.nils,.nils,.bool false]),(2,.box [.own 3 1 0 c40.T.length,.own 4 1 0 c40.Sel.length,.ro 3 ((c40.L ++ ([(⟨from1,to2,m3⟩ : zz)]:List zz)).map zz.c),.own 5 3 0 c40.Work.length,.bool c40.Over]),(3,.row 1 36 (c40.T.map qk.c)),(4,.row 1 34 (c40.Sel.map (wv 10 qj.c))),(5,.row 3 108 (c40.Work.map zw.c))],6⟩) (Conv.keep [1,3,4,5,6,8] [10] [5,8,10,61,62,63] rfl rfl (qx rfl rfl (qx rfl rfl (qx rfl rfl (qx rfl rfl (qx rfl rfl (qx rfl rfl qy)))))) (kx rfl rfl (kx rfl rfl (kx rfl (bN (qz rfl (qz rfl (qz (aN rfl rfl) (qz rfl (qz rfl qw)))))) (kx rfl rfl (kx rfl rfl (kx rfl rfl cE)))))) rfl) ?_ (by simp)
      refine bq (t:=61) rfl (by simp) (fun ge17=>?_)
      rw [List.length_map] at ge17
      generalize gi17:F25l1 from1 (c40.L ++ ([(⟨from1,to2,m3⟩ : zz)]:List zz)) c40.Over c40.T c40.Sel c40.Work x907.L = gh17 at hR
      refine aY (fun k s=>∃ (i63:Nat) (k_2_10:List zz) (k_4_10:Bool) (row3:List qk) (row4:List (List qj)) (row5:List zw),i63 ≤ x907.L.length ∧ k = x907.L.length - i63 ∧ F25l1 from1 k_2_10 k_4_10 row3 row4 row5 (x907.L.drop i63) = gh17 ∧ s = ⟨[(5,.ptr 0 0),(8,.ptr 1 0),(10,.ptr 2 0),(61,.ro 10 (x907.L.map qj.c)),(62,.int .i64 (x907.L.length:Int)),(63,.int .i64 (i63:Int))],[(0,.box [.int .i64 from1]),(1,.box [.nils,.nils,.nils,.nils,.bool false]),(2,.box [.own 3 1 0 row3.length,.own 4 1 0 row4.length,.ro 3 (k_2_10.map zz.c),.own 5 3 0 row5.length,.bool k_4_10]),(3,.row 1 36 (row3.map qk.c)),(4,.row 1 34 (row4.map (wv 10 qj.c))),(5,.row 3 108 (row5.map zw.c))],6⟩) x907.L.length (by refine ⟨_,?_,0,(c40.L ++ ([(⟨from1,to2,m3⟩ : zz)]:List zz)),c40.Over,c40.T,c40.Sel,c40.Work,(by omega),rfl,gi17,rfl⟩; exact Conv.keep [0,1,2,3,4,5] [] [5,8,10,61,62,63] rfl rfl (qx rfl rfl (qx rfl rfl (qx rfl rfl (qx rfl rfl (qx rfl rfl (qx rfl rfl qy)))))) rfl rfl) ?_
      rintro _ _ ⟨i63,k_2_10,k_4_10,row3,row4,row5,gj17,rfl,gg17,rfl⟩ gb17 gd17 gk17 ga17 gc17 gf17
      refine ah qv (ae (.bool (decide ((i63:Int) < (x907.L.length:Int)))) (aa (ak ?_)))
      rcases qq (decide ((i63:Int) < (x907.L.length:Int))) with hb18 | hb18
      ·rw [hb18]
       rw [bc hb18,F25l1] at gg17
       refine aq rfl (aT ?_)
       refine aU (gc17 _ ?_)
       subst gg17
       replace hR:=be hR; try dsimp only at hR
       refine ah qv (af rfl (ae (.ptr 2 0) (ae (.agg [.own 3 1 0 row3.length,.own 4 1 0 row4.length,.ro 3 (k_2_10.map zz.c),.own 5 3 0 row5.length,.bool k_4_10]) (ay (zj:=[(0,.box [.int .i64 from1]),(1,.box [.own 3 1 0 row3.length,.own 4 1 0 row4.length,.ro 3 (k_2_10.map zz.c),.own 5 3 0 row5.length,.bool k_4_10]),(2,.box [.own 3 1 0 row3.length,.own 4 1 0 row4.length,.ro 3 (k_2_10.map zz.c),.own 5 3 0 row5.length,.bool k_4_10]),(3,.row 1 36 (row3.map qk.c)),(4,.row 1 34 (row4.map (wv 10 qj.c))),(5,.row 3 108 (row5.map zw.c))]) (zk:=6) rfl rfl rfl rfl rfl (af rfl (aa (aj ?_)))))))
       obtain rfl:=Option.some.inj hR
       exact ai [3,4,5] (.inr rfl) rfl rfl (qz (bG (qz (aN rfl rfl) (qz (aN rfl rfl) (qz rfl (qz (aN rfl rfl) (qz rfl qw)))))) (qz rfl qw)) rfl
      ·rw [hb18]
       obtain ⟨x63,hx17,hd17,hlt17⟩:=aR hb18
       rw [hd17,F25l1] at gg17
       refine ap rfl (aA (ak ?_))
       refine aI (fun _ hK19=>?_)
       refine ah qv (aZ (c:=qj.c) (x:=x63) rfl rfl rfl (Int.natCast_nonneg _) hx17 (ae (.agg (qj.c x63)) (aw (v':=.ptr 6 0) (zj:=[(0,.box [.int .i64 from1]),(1,.box [.nils,.nils,.nils,.nils,.bool false]),(2,.box [.own 3 1 0 row3.length,.own 4 1 0 row4.length,.ro 3 (k_2_10.map zz.c),.own 5 3 0 row5.length,.bool k_4_10]),(3,.row 1 36 (row3.map qk.c)),(4,.row 1 34 (row4.map (wv 10 qj.c))),(5,.row 3 108 (row5.map zw.c)),(6,.box [.int .u32 0,.int .i64 0,.int .i64 0,.int .i64 0,.int .i64 0,.int .i64 0,.int .u32 0,.bool false,.int .i64 0,.nils])]) (zk:=7) rfl rfl rfl rfl rfl rfl rfl (ay (zj:=[(0,.box [.int .i64 from1]),(1,.box [.nils,.nils,.nils,.nils,.bool false]),(2,.box [.own 3 1 0 row3.length,.own 4 1 0 row4.length,.ro 3 (k_2_10.map zz.c),.own 5 3 0 row5.length,.bool k_4_10]),(3,.row 1 36 (row3.map qk.c)),(4,.row 1 34 (row4.map (wv 10 qj.c))),(5,.row 3 108 (row5.map zw.c)),(6,.box (qj.c x63))]) (zk:=7) rfl rfl rfl rfl rfl (aa (az qv (af rfl (ae (.int .i64 from1) (ae (.ptr 6 0) (ae (.agg (zy.c x63.P)) ?_))))))))))
       rcases wy gg17 with ⟨_,gg17⟩ | ⟨c71,hc71,gg17⟩
       ·subst gg17
        first | replace hR:=wz hR | replace hR:=aJ hR
        cases hR
       try dsimp only at gg17
       try dsimp only at gg17
       refine bd (r':=.tup []) (zj:=[(0,.box [.int .i64 from1]),(1,.box [.nils,.nils,.nils,.nils,.bool false]),(2,.box [.own 7 1 0 c71.T.length,.own 8 1 0 c71.Sel.length,.ro 3 (c71.L.map zz.c),.own 9 3 0 c71.Work.length,.bool c71.Over]),(6,.box (qj.c x63)),(9,.row 3 108 (c71.Work.map zw.c)),(8,.row 1 34 (c71.Sel.map (wv 10 qj.c))),(7,.row 1 36 (c71.T.map qk.c))]) (zk:=10) [2,3,4,5] [] rfl rfl rfl rfl rfl rfl (f68_ok (⟨row3,row4,k_2_10,row5,k_4_10⟩ : TNet) from1 x63.P _ hc71) (.inl rfl) rfl rfl rfl (aa ?_)
       refine aB (am (hK19 _ ?_))
       refine az qv (ar (v':=.int .i64 ((i63 + 1:Nat):Int)) rfl rfl rfl rfl (congrArg (PVal.int .i64) (aO hlt17 ge17)) (af rfl (aa ?_)))
       refine aB (am ?_)
       refine ga17 _ (x907.L.length - (i63 + 1)) _ (by omega) ?_ ⟨i63 + 1,c71.L,c71.Over,c71.T,c71.Sel,c71.Work,(by omega),rfl,gg17,rfl⟩
       exact Conv.keep [0,1,2,7,8,9] [] [5,8,10,61,62,63] rfl rfl (qx rfl rfl (qx rfl rfl (qx rfl rfl (qx rfl rfl (qx rfl rfl (qx rfl rfl qy)))))) rfl rfl
     ·rw [hb5]; first | replace hR:=kz hb5 hR | (try simp only [hb5,bb] at hR)
      refine ap rfl (ah qv (ae (.agg (TNet.c n0)) (ay (zj:=[(0,.box (TNet.c n0)),(1,.box [.int .i64 from1]),(2,.box [.int .i64 to2]),(3,.box (TNet.c n0))]) (zk:=4) rfl rfl rfl rfl rfl (af rfl (aa (aj ?_))))))
      obtain rfl:=Option.some.inj hR
      exact ai [] (.inr rfl) rfl rfl rfl rfl
   ·rw [hb3]; first | replace hR:=kz hb3 hR | (try simp only [hb3,bb] at hR)
    refine ag rfl rfl (ag rfl rfl (ag rfl rfl (ae (.bool true) (aa (ap rfl (ah qv (ae (.agg (TNet.c n0)) (ay (zj:=[(0,.box (TNet.c n0)),(1,.box [.int .i64 from1]),(2,.box [.int .i64 to2]),(3,.box (TNet.c n0))]) (zk:=4) rfl rfl rfl rfl rfl (af rfl (aa (aj ?_)))))))))))
    obtain rfl:=Option.some.inj hR
    exact ai [] (.inr rfl) rfl rfl rfl rfl
theorem f123_ok (n0:Int) (low1:Int) (high2:Int) (R:Bool) (hR:F123 n0 low1 high2 = R):FnOk Tryz.prog 123 [.int .i64 n0,.int .i64 low1,.int .i64 high2] [] 0 (.bool R) [] 0:=by
 refine FnOk.wk i123 rfl rfl ?_
 unfold F123 at hR
 change WK _ _ _ [ac123] _ ⟨[(0,.int .i64 n0),(1,.int .i64 low1),(2,.int .i64 high2)],[],0⟩
 unfold ac123
 refine ah qv (af rfl (aa (ah qv (af rfl (af rfl (ae (.bool (decide (low1 ≤ n0))) (af rfl ?_)))))))
 rcases qq (decide (low1 ≤ n0)) with hb1 | hb1
 ·rw [hb1]; try simp only [hb1,bb] at hR
  refine ag rfl rfl (ag rfl rfl (ag rfl rfl (ae (.bool false) (af rfl (aa (aj ?_))))))
  subst hR
  exact ai [] (.inr rfl) rfl rfl rfl rfl
 ·rw [hb1]; try simp only [hb1,bb] at hR
  refine af rfl (af rfl (ae (.bool (decide (n0 ≤ high2))) (ae (.bool (decide (n0 ≤ high2))) (af rfl (aa (aj ?_))))))
  subst hR
  exact ai [] (.inr rfl) rfl rfl rfl rfl
theorem f89_ok (c0:qj) (R:Bool) (hR:F89 c0 = R):FnOk Tryz.prog 89 [.agg (qj.c c0)] [] 0 (.bool R) [] 0:=by
 refine FnOk.wk i89 rfl rfl ?_
 unfold F89 at hR
 change WK _ _ _ [ac89] _ ⟨[(0,.agg (qj.c c0))],[],0⟩
 unfold ac89
 refine ah qv (aw (v':=.ptr 0 0) (zj:=[(0,.box (qj.c c0))]) (zk:=1) rfl rfl rfl rfl rfl rfl rfl (af rfl (aa (ah qv (ae (.ptr 0 4) (ae (.int .i64 c0.Dist) ?_))))))
 generalize hc7:F123 c0.Dist 1 255 = c7 at hR
 try dsimp only at hR
 refine av (r:=.bool c7) rfl rfl rfl (f123_ok c0.Dist 1 255 _ hc7) rfl rfl (af rfl (aa (ak (ah qv (ae (.ptr 0 2) (ae (.int .i64 c0.Proto) (ae (.bool (decide (c0.Proto = 0))) (aa ?_))))))))
 rcases qq (decide (c0.Proto = 0)) with hb1 | hb1
 ·rw [hb1]; try simp only [hb1,bb] at hR
  refine aq rfl (aA (ah qv (ae (.ptr 0 8) (ae (.int .i64 c0.From) ?_))))
  generalize hc16:F123 c0.From 0 31 = c16 at hR
  try dsimp only at hR
  refine av (r:=.bool c16) rfl rfl rfl (f123_ok c0.From 0 31 _ hc16) rfl rfl (af rfl ?_)
  rcases qq (c16) with hb2 | hb2
  ·rw [hb2]; try simp only [hb2,bb] at hR
   iterate 7 refine ag rfl rfl ?_
   refine ae (.bool false) (af rfl (aa (ah qv (ae (.ptr 0 0) (ae (.agg (zy.c c0.P)) ?_)))))
   generalize hc28:F124 c0.P = c28 at hR
   try dsimp only at hR
   refine av (r:=.bool c28) rfl rfl rfl (f124_ok c0.P _ hc28) rfl rfl (af rfl ?_)
   rcases qq (c28) with hb3 | hb3
   ·rw [hb3]; try simp only [hb3,bb] at hR
    refine ag rfl rfl (ag rfl rfl (ag rfl rfl (ae (.bool false) (af rfl (ag rfl rfl (ag rfl rfl (ag rfl rfl (ae (.bool false) (af rfl (ag rfl rfl (ag rfl rfl (ag rfl rfl (ae (.bool false) ?_)))))))))))))
    refine af rfl (ag rfl rfl (ae (.bool false) (af rfl (ag rfl rfl (ae (.bool false) (af rfl ?_))))))
    iterate 4 refine ag rfl rfl ?_
    refine ae (.bool false) (af rfl (aa (aj ?_)))
    subst hR
    exact ai [] (.inr rfl) rfl rfl rfl rfl
   ·rw [hb3]; try simp only [hb3,bb] at hR
    refine ae (.ptr 0 2) (ae (.int .i64 c0.Proto) ?_)
    generalize hc32:F123 c0.Proto 0 5 = c32 at hR
    try dsimp only at hR
    refine av (r:=.bool c32) rfl rfl rfl (f123_ok c0.Proto 0 5 _ hc32) rfl rfl (ae (.bool c32) (af rfl ?_))
    rcases qq (c32) with hb4 | hb4
    ·rw [hb4]; try simp only [hb4,bb] at hR
     refine ag rfl rfl (ag rfl rfl (ag rfl rfl (ae (.bool false) (af rfl (ag rfl rfl (ag rfl rfl (ag rfl rfl (ae (.bool false) (af rfl (ag rfl rfl (ae (.bool false) (af rfl (ag rfl rfl ?_)))))))))))))
     refine ae (.bool false) (af rfl ?_)
     iterate 4 refine ag rfl rfl ?_
     refine ae (.bool false) (af rfl (aa (aj ?_)))
     subst hR
     exact ai [] (.inr rfl) rfl rfl rfl rfl
    ·rw [hb4]; try simp only [hb4,bb] at hR
     refine ae (.ptr 0 3) (ae (.int .i64 c0.Inst) ?_)
     generalize hc37:F123 c0.Inst 0 99 = c37 at hR
     try dsimp only at hR
     refine av (r:=.bool c37) rfl rfl rfl (f123_ok c0.Inst 0 99 _ hc37) rfl rfl (ae (.bool c37) (af rfl ?_))
     rcases qq (c37) with hb5 | hb5
     ·rw [hb5]; try simp only [hb5,bb] at hR
      refine ag rfl rfl (ag rfl rfl (ag rfl rfl (ae (.bool false) (af rfl (ag rfl rfl (ae (.bool false) (af rfl (ag rfl rfl (ae (.bool false) (af rfl ?_))))))))))
      iterate 4 refine ag rfl rfl ?_
      refine ae (.bool false) (af rfl (aa (aj ?_)))
      subst hR
      exact ai [] (.inr rfl) rfl rfl rfl rfl
     ·rw [hb5]; try simp only [hb5,bb] at hR
      refine ae (.ptr 0 5) (ae (.int .i64 c0.Metric) (ae (.bool (decide (0 ≤ c0.Metric))) (ae (.bool (decide (0 ≤ c0.Metric))) (af rfl ?_))))
      rcases qq (decide (0 ≤ c0.Metric)) with hb6 | hb6
      ·rw [hb6]; try simp only [hb6,bb] at hR
       refine ag rfl rfl (ae (.bool false) (af rfl (ag rfl rfl (ae (.bool false) (af rfl ?_)))))
       iterate 4 refine ag rfl rfl ?_
       refine ae (.bool false) (af rfl (aa (aj ?_)))
       subst hR
       exact ai [] (.inr rfl) rfl rfl rfl rfl
      ·rw [hb6]; try simp only [hb6,bb] at hR
       refine af rfl (ae (.bool c7) (af rfl ?_))
       rcases qq (c7) with hb7 | hb7
       ·rw [hb7]; try simp only [hb7,bb] at hR
        refine ag rfl rfl (ae (.bool false) (af rfl ?_))
        iterate 4 refine ag rfl rfl ?_
        refine ae (.bool false) (af rfl (aa (aj ?_)))
        subst hR
        exact ai [] (.inr rfl) rfl rfl rfl rfl
       ·rw [hb7]; try simp only [hb7,bb] at hR
        refine af rfl (ae (.bool false) (af rfl ?_))
        iterate 4 refine ag rfl rfl ?_
        refine ae (.bool false) (af rfl (aa (aj ?_)))
        subst hR
        exact ai [] (.inr rfl) rfl rfl rfl rfl
  ·rw [hb2]; try simp only [hb2,bb] at hR
   refine ae (.ptr 0 7) (ae (.bool c0.Leaked) (af rfl ?_))
   rcases qq (c0.Leaked) with hb8 | hb8
   ·rw [hb8]; try simp only [hb8,bb] at hR
    refine ae (.ptr 0 8) (ae (.int .i64 c0.From) (ae (.bool (decide (c0.From = 0))) (ae (.bool (decide (c0.From = 0))) (ae (.bool (decide (c0.From = 0))) (af rfl (aa (ah qv (ae (.ptr 0 0) (ae (.agg (zy.c c0.P)) ?_)))))))))
    generalize hc28:F124 c0.P = c28 at hR
    try dsimp only at hR
    refine av (r:=.bool c28) rfl rfl rfl (f124_ok c0.P _ hc28) rfl rfl (af rfl ?_)
    rcases qq (c28) with hb9 | hb9
    ·rw [hb9]; try simp only [hb9,bb] at hR
     refine ag rfl rfl (ag rfl rfl (ag rfl rfl (ae (.bool false) (af rfl (ag rfl rfl (ag rfl rfl (ag rfl rfl (ae (.bool false) (af rfl (ag rfl rfl (ag rfl rfl (ag rfl rfl (ae (.bool false) ?_)))))))))))))
     refine af rfl (ag rfl rfl (ae (.bool false) (af rfl (ag rfl rfl (ae (.bool false) (af rfl ?_))))))
     iterate 4 refine ag rfl rfl ?_
     refine ae (.bool false) (af rfl (aa (aj ?_)))
     subst hR
     exact ai [] (.inr rfl) rfl rfl rfl rfl
    ·rw [hb9]; try simp only [hb9,bb] at hR
     refine ae (.ptr 0 2) (ae (.int .i64 c0.Proto) ?_)
     generalize hc32:F123 c0.Proto 0 5 = c32 at hR
     try dsimp only at hR
     refine av (r:=.bool c32) rfl rfl rfl (f123_ok c0.Proto 0 5 _ hc32) rfl rfl (ae (.bool c32) (af rfl ?_))
     rcases qq (c32) with hb10 | hb10
     ·rw [hb10]; try simp only [hb10,bb] at hR
      refine ag rfl rfl (ag rfl rfl (ag rfl rfl (ae (.bool false) (af rfl (ag rfl rfl (ag rfl rfl (ag rfl rfl (ae (.bool false) (af rfl (ag rfl rfl (ae (.bool false) (af rfl (ag rfl rfl ?_)))))))))))))
      refine ae (.bool false) (af rfl ?_)
      iterate 4 refine ag rfl rfl ?_
      refine ae (.bool false) (af rfl (aa (aj ?_)))
      subst hR
      exact ai [] (.inr rfl) rfl rfl rfl rfl
     ·rw [hb10]; try simp only [hb10,bb] at hR
      refine ae (.ptr 0 3) (ae (.int .i64 c0.Inst) ?_)
      generalize hc37:F123 c0.Inst 0 99 = c37 at hR
      try dsimp only at hR
      refine av (r:=.bool c37) rfl rfl rfl (f123_ok c0.Inst 0 99 _ hc37) rfl rfl (ae (.bool c37) (af rfl ?_))
      rcases qq (c37) with hb11 | hb11
      ·rw [hb11]; try simp only [hb11,bb] at hR
       refine ag rfl rfl (ag rfl rfl (ag rfl rfl (ae (.bool false) (af rfl (ag rfl rfl (ae (.bool false) (af rfl (ag rfl rfl (ae (.bool false) (af rfl ?_))))))))))
       iterate 4 refine ag rfl rfl ?_
       refine ae (.bool false) (af rfl (aa (aj ?_)))
       subst hR
       exact ai [] (.inr rfl) rfl rfl rfl rfl
      ·rw [hb11]; try simp only [hb11,bb] at hR
       refine ae (.ptr 0 5) (ae (.int .i64 c0.Metric) (ae (.bool (decide (0 ≤ c0.Metric))) (ae (.bool (decide (0 ≤ c0.Metric))) (af rfl ?_))))
       rcases qq (decide (0 ≤ c0.Metric)) with hb12 | hb12
       ·rw [hb12]; try simp only [hb12,bb] at hR
        refine ag rfl rfl (ae (.bool false) (af rfl (ag rfl rfl (ae (.bool false) (af rfl ?_)))))
        iterate 4 refine ag rfl rfl ?_
        refine ae (.bool false) (af rfl (aa (aj ?_)))
        subst hR
        exact ai [] (.inr rfl) rfl rfl rfl rfl
       ·rw [hb12]; try simp only [hb12,bb] at hR
        refine af rfl (ae (.bool c7) (af rfl ?_))
        rcases qq (c7) with hb13 | hb13
        ·rw [hb13]; try simp only [hb13,bb] at hR
         refine ag rfl rfl (ae (.bool false) (af rfl ?_))
         iterate 4 refine ag rfl rfl ?_
         refine ae (.bool false) (af rfl (aa (aj ?_)))
         subst hR
         exact ai [] (.inr rfl) rfl rfl rfl rfl
        ·rw [hb13]; try simp only [hb13,bb] at hR
         refine af rfl (ae (.bool (decide (c0.From = 0))) (af rfl ?_))
         rcases qq (decide (c0.From = 0)) with hb14 | hb14
         ·rw [hb14]; try simp only [hb14,bb] at hR
          iterate 4 refine ag rfl rfl ?_
          refine ae (.bool false) (af rfl (aa (aj ?_)))
          subst hR
          exact ai [] (.inr rfl) rfl rfl rfl rfl
         ·rw [hb14]; try simp only [hb14,bb] at hR
          refine ae (.ptr 0 9) (ae (.ro 2 (c0.Hops.map THop.c)) (ar (v':=.int .i64 (c0.Hops.length:Int)) rfl rfl rfl rfl (ww _ _) ?_))
          generalize hc54:F123 (c0.Hops.length:Int) 1 8 = c54 at hR
          try dsimp only at hR
          refine av (r:=.bool c54) rfl rfl rfl (f123_ok (c0.Hops.length:Int) 1 8 _ hc54) rfl rfl (ae (.bool c54) (af rfl (aa (aj ?_))))
          subst hR
          exact ai [] (.inr rfl) rfl rfl rfl rfl
   ·rw [hb8]; try simp only [hb8,bb] at hR
    refine ag rfl rfl (ag rfl rfl (ag rfl rfl (ae (.bool true) (ae (.bool true) (af rfl (aa (ah qv (ae (.ptr 0 0) (ae (.agg (zy.c c0.P)) ?_)))))))))
    generalize hc28:F124 c0.P = c28 at hR
    try dsimp only at hR
    refine av (r:=.bool c28) rfl rfl rfl (f124_ok c0.P _ hc28) rfl rfl (af rfl ?_)
    rcases qq (c28) with hb15 | hb15
    ·rw [hb15]; try simp only [hb15,bb] at hR
     refine ag rfl rfl (ag rfl rfl (ag rfl rfl (ae (.bool false) (af rfl (ag rfl rfl (ag rfl rfl (ag rfl rfl (ae (.bool false) (af rfl (ag rfl rfl (ag rfl rfl (ag rfl rfl (ae (.bool false) ?_)))))))))))))
     refine af rfl (ag rfl rfl (ae (.bool false) (af rfl (ag rfl rfl (ae (.bool false) (af rfl ?_))))))
     iterate 4 refine ag rfl rfl ?_
     refine ae (.bool false) (af rfl (aa (aj ?_)))
     subst hR
     exact ai [] (.inr rfl) rfl rfl rfl rfl
    ·rw [hb15]; try simp only [hb15,bb] at hR
     refine ae (.ptr 0 2) (ae (.int .i64 c0.Proto) ?_)
     generalize hc32:F123 c0.Proto 0 5 = c32 at hR
     try dsimp only at hR
     refine av (r:=.bool c32) rfl rfl rfl (f123_ok c0.Proto 0 5 _ hc32) rfl rfl (ae (.bool c32) (af rfl ?_))
     rcases qq (c32) with hb16 | hb16
     ·rw [hb16]; try simp only [hb16,bb] at hR
      refine ag rfl rfl (ag rfl rfl (ag rfl rfl (ae (.bool false) (af rfl (ag rfl rfl (ag rfl rfl (ag rfl rfl (ae (.bool false) (af rfl (ag rfl rfl (ae (.bool false) (af rfl (ag rfl rfl ?_)))))))))))))
      refine ae (.bool false) (af rfl ?_)
      iterate 4 refine ag rfl rfl ?_
      refine ae (.bool false) (af rfl (aa (aj ?_)))
      subst hR
      exact ai [] (.inr rfl) rfl rfl rfl rfl
     ·rw [hb16]; try simp only [hb16,bb] at hR
      refine ae (.ptr 0 3) (ae (.int .i64 c0.Inst) ?_)
      generalize hc37:F123 c0.Inst 0 99 = c37 at hR
      try dsimp only at hR
      refine av (r:=.bool c37) rfl rfl rfl (f123_ok c0.Inst 0 99 _ hc37) rfl rfl (ae (.bool c37) (af rfl ?_))
      rcases qq (c37) with hb17 | hb17
      ·rw [hb17]; try simp only [hb17,bb] at hR
       refine ag rfl rfl (ag rfl rfl (ag rfl rfl (ae (.bool false) (af rfl (ag rfl rfl (ae (.bool false) (af rfl (ag rfl rfl (ae (.bool false) (af rfl ?_))))))))))
       iterate 4 refine ag rfl rfl ?_
       refine ae (.bool false) (af rfl (aa (aj ?_)))
       subst hR
       exact ai [] (.inr rfl) rfl rfl rfl rfl
      ·rw [hb17]; try simp only [hb17,bb] at hR
       refine ae (.ptr 0 5) (ae (.int .i64 c0.Metric) (ae (.bool (decide (0 ≤ c0.Metric))) (ae (.bool (decide (0 ≤ c0.Metric))) (af rfl ?_))))
       rcases qq (decide (0 ≤ c0.Metric)) with hb18 | hb18
       ·rw [hb18]; try simp only [hb18,bb] at hR
        refine ag rfl rfl (ae (.bool false) (af rfl (ag rfl rfl (ae (.bool false) (af rfl ?_)))))
        iterate 4 refine ag rfl rfl ?_
        refine ae (.bool false) (af rfl (aa (aj ?_)))
        subst hR
        exact ai [] (.inr rfl) rfl rfl rfl rfl
       ·rw [hb18]; try simp only [hb18,bb] at hR
        refine af rfl (ae (.bool c7) (af rfl ?_))
        rcases qq (c7) with hb19 | hb19
        ·rw [hb19]; try simp only [hb19,bb] at hR
         refine ag rfl rfl (ae (.bool false) (af rfl ?_))
         iterate 4 refine ag rfl rfl ?_
         refine ae (.bool false) (af rfl (aa (aj ?_)))
         subst hR
         exact ai [] (.inr rfl) rfl rfl rfl rfl
        ·rw [hb19]; try simp only [hb19,bb] at hR
         refine af rfl (ae (.bool true) (af rfl (ae (.ptr 0 9) (ae (.ro 2 (c0.Hops.map THop.c)) (ar (v':=.int .i64 (c0.Hops.length:Int)) rfl rfl rfl rfl (ww _ _) ?_)))))
         generalize hc54:F123 (c0.Hops.length:Int) 1 8 = c54 at hR
         try dsimp only at hR
         refine av (r:=.bool c54) rfl rfl rfl (f123_ok (c0.Hops.length:Int) 1 8 _ hc54) rfl rfl (ae (.bool c54) (af rfl (aa (aj ?_))))
         subst hR
         exact ai [] (.inr rfl) rfl rfl rfl rfl
 ·rw [hb1]; try simp only [hb1,bb] at hR
  refine ap rfl (az qv (ae (.ptr 0 4) (ae (.int .i64 c0.Dist) (ae (.bool (decide (c0.Dist = 0))) (af rfl (aa (ah qv (ae (.ptr 0 8) (ae (.int .i64 c0.From) ?_)))))))))
  generalize hc16:F123 c0.From 0 31 = c16 at hR
  try dsimp only at hR
  refine av (r:=.bool c16) rfl rfl rfl (f123_ok c0.From 0 31 _ hc16) rfl rfl (af rfl ?_)
  rcases qq (c16) with hb20 | hb20
  ·rw [hb20]; try simp only [hb20,bb] at hR
   iterate 7 refine ag rfl rfl ?_
   refine ae (.bool false) (af rfl (aa (ah qv (ae (.ptr 0 0) (ae (.agg (zy.c c0.P)) ?_)))))
   generalize hc28:F124 c0.P = c28 at hR
   try dsimp only at hR
   refine av (r:=.bool c28) rfl rfl rfl (f124_ok c0.P _ hc28) rfl rfl (af rfl ?_)
   rcases qq (c28) with hb21 | hb21
   ·rw [hb21]; try simp only [hb21,bb] at hR
    refine ag rfl rfl (ag rfl rfl (ag rfl rfl (ae (.bool false) (af rfl (ag rfl rfl (ag rfl rfl (ag rfl rfl (ae (.bool false) (af rfl (ag rfl rfl (ag rfl rfl (ag rfl rfl (ae (.bool false) ?_)))))))))))))
    refine af rfl (ag rfl rfl (ae (.bool false) (af rfl (ag rfl rfl (ae (.bool false) (af rfl ?_))))))
    iterate 4 refine ag rfl rfl ?_
    refine ae (.bool false) (af rfl (aa (aj ?_)))
    subst hR
    exact ai [] (.inr rfl) rfl rfl rfl rfl
   ·rw [hb21]; try simp only [hb21,bb] at hR
    refine ae (.ptr 0 2) (ae (.int .i64 c0.Proto) ?_)
    generalize hc32:F123 c0.Proto 0 5 = c32 at hR
    try dsimp only at hR
    refine av (r:=.bool c32) rfl rfl rfl (f123_ok c0.Proto 0 5 _ hc32) rfl rfl (ae (.bool c32) (af rfl ?_))
    rcases qq (c32) with hb22 | hb22
    ·rw [hb22]; try simp only [hb22,bb] at hR
     refine ag rfl rfl (ag rfl rfl (ag rfl rfl (ae (.bool false) (af rfl (ag rfl rfl (ag rfl rfl (ag rfl rfl (ae (.bool false) (af rfl (ag rfl rfl (ae (.bool false) (af rfl (ag rfl rfl ?_)))))))))))))
     refine ae (.bool false) (af rfl ?_)
     iterate 4 refine ag rfl rfl ?_
     refine ae (.bool false) (af rfl (aa (aj ?_)))
     subst hR
     exact ai [] (.inr rfl) rfl rfl rfl rfl
    ·rw [hb22]; try simp only [hb22,bb] at hR
     refine ae (.ptr 0 3) (ae (.int .i64 c0.Inst) ?_)
     generalize hc37:F123 c0.Inst 0 99 = c37 at hR
     try dsimp only at hR
     refine av (r:=.bool c37) rfl rfl rfl (f123_ok c0.Inst 0 99 _ hc37) rfl rfl (ae (.bool c37) (af rfl ?_))
     rcases qq (c37) with hb23 | hb23
     ·rw [hb23]; try simp only [hb23,bb] at hR
      refine ag rfl rfl (ag rfl rfl (ag rfl rfl (ae (.bool false) (af rfl (ag rfl rfl (ae (.bool false) (af rfl (ag rfl rfl (ae (.bool false) (af rfl ?_))))))))))
      iterate 4 refine ag rfl rfl ?_
      refine ae (.bool false) (af rfl (aa (aj ?_)))
      subst hR
      exact ai [] (.inr rfl) rfl rfl rfl rfl
     ·rw [hb23]; try simp only [hb23,bb] at hR
      refine ae (.ptr 0 5) (ae (.int .i64 c0.Metric) (ae (.bool (decide (0 ≤ c0.Metric))) (ae (.bool (decide (0 ≤ c0.Metric))) (af rfl ?_))))
      rcases qq (decide (0 ≤ c0.Metric)) with hb24 | hb24
      ·rw [hb24]; try simp only [hb24,bb] at hR
       refine ag rfl rfl (ae (.bool false) (af rfl (ag rfl rfl (ae (.bool false) (af rfl ?_)))))
       iterate 4 refine ag rfl rfl ?_
       refine ae (.bool false) (af rfl (aa (aj ?_)))
       subst hR
       exact ai [] (.inr rfl) rfl rfl rfl rfl
      ·rw [hb24]; try simp only [hb24,bb] at hR
       refine af rfl (ae (.bool (decide (c0.Dist = 0))) (af rfl ?_))
       rcases qq (decide (c0.Dist = 0)) with hb25 | hb25
       ·rw [hb25]; try simp only [hb25,bb] at hR
        refine ag rfl rfl (ae (.bool false) (af rfl ?_))
        iterate 4 refine ag rfl rfl ?_
        refine ae (.bool false) (af rfl (aa (aj ?_)))
        subst hR
        exact ai [] (.inr rfl) rfl rfl rfl rfl
       ·rw [hb25]; try simp only [hb25,bb] at hR
        refine af rfl (ae (.bool false) (af rfl ?_))
        iterate 4 refine ag rfl rfl ?_
        refine ae (.bool false) (af rfl (aa (aj ?_)))
        subst hR
        exact ai [] (.inr rfl) rfl rfl rfl rfl
  ·rw [hb20]; try simp only [hb20,bb] at hR
   refine ae (.ptr 0 7) (ae (.bool c0.Leaked) (af rfl ?_))
   rcases qq (c0.Leaked) with hb26 | hb26
   ·rw [hb26]; try simp only [hb26,bb] at hR
    refine ae (.ptr 0 8) (ae (.int .i64 c0.From) (ae (.bool (decide (c0.From = 0))) (ae (.bool (decide (c0.From = 0))) (ae (.bool (decide (c0.From = 0))) (af rfl (aa (ah qv (ae (.ptr 0 0) (ae (.agg (zy.c c0.P)) ?_)))))))))
    generalize hc28:F124 c0.P = c28 at hR
    try dsimp only at hR
    refine av (r:=.bool c28) rfl rfl rfl (f124_ok c0.P _ hc28) rfl rfl (af rfl ?_)
    rcases qq (c28) with hb27 | hb27
    ·rw [hb27]; try simp only [hb27,bb] at hR
     refine ag rfl rfl (ag rfl rfl (ag rfl rfl (ae (.bool false) (af rfl (ag rfl rfl (ag rfl rfl (ag rfl rfl (ae (.bool false) (af rfl (ag rfl rfl (ag rfl rfl (ag rfl rfl (ae (.bool false) ?_)))))))))))))
     refine af rfl (ag rfl rfl (ae (.bool false) (af rfl (ag rfl rfl (ae (.bool false) (af rfl ?_))))))
     iterate 4 refine ag rfl rfl ?_
     refine ae (.bool false) (af rfl (aa (aj ?_)))
     subst hR
     exact ai [] (.inr rfl) rfl rfl rfl rfl
    ·rw [hb27]; try simp only [hb27,bb] at hR
     refine ae (.ptr 0 2) (ae (.int .i64 c0.Proto) ?_)
     generalize hc32:F123 c0.Proto 0 5 = c32 at hR
     try dsimp only at hR
     refine av (r:=.bool c32) rfl rfl rfl (f123_ok c0.Proto 0 5 _ hc32) rfl rfl (ae (.bool c32) (af rfl ?_))
     rcases qq (c32) with hb28 | hb28
     ·rw [hb28]; try simp only [hb28,bb] at hR
      refine ag rfl rfl (ag rfl rfl (ag rfl rfl (ae (.bool false) (af rfl (ag rfl rfl (ag rfl rfl (ag rfl rfl (ae (.bool false) (af rfl (ag rfl rfl (ae (.bool false) (af rfl (ag rfl rfl ?_)))))))))))))
      refine ae (.bool false) (af rfl ?_)
      iterate 4 refine ag rfl rfl ?_
      refine ae (.bool false) (af rfl (aa (aj ?_)))
      subst hR
      exact ai [] (.inr rfl) rfl rfl rfl rfl
     ·rw [hb28]; try simp only [hb28,bb] at hR
      refine ae (.ptr 0 3) (ae (.int .i64 c0.Inst) ?_)
      generalize hc37:F123 c0.Inst 0 99 = c37 at hR
      try dsimp only at hR
      refine av (r:=.bool c37) rfl rfl rfl (f123_ok c0.Inst 0 99 _ hc37) rfl rfl (ae (.bool c37) (af rfl ?_))
      rcases qq (c37) with hb29 | hb29
      ·rw [hb29]; try simp only [hb29,bb] at hR
       refine ag rfl rfl (ag rfl rfl (ag rfl rfl (ae (.bool false) (af rfl (ag rfl rfl (ae (.bool false) (af rfl (ag rfl rfl (ae (.bool false) (af rfl ?_))))))))))
       iterate 4 refine ag rfl rfl ?_
       refine ae (.bool false) (af rfl (aa (aj ?_)))
       subst hR
       exact ai [] (.inr rfl) rfl rfl rfl rfl
      ·rw [hb29]; try simp only [hb29,bb] at hR
       refine ae (.ptr 0 5) (ae (.int .i64 c0.Metric) (ae (.bool (decide (0 ≤ c0.Metric))) (ae (.bool (decide (0 ≤ c0.Metric))) (af rfl ?_))))
       rcases qq (decide (0 ≤ c0.Metric)) with hb30 | hb30
       ·rw [hb30]; try simp only [hb30,bb] at hR
        refine ag rfl rfl (ae (.bool false) (af rfl (ag rfl rfl (ae (.bool false) (af rfl ?_)))))
        iterate 4 refine ag rfl rfl ?_
        refine ae (.bool false) (af rfl (aa (aj ?_)))
        subst hR
        exact ai [] (.inr rfl) rfl rfl rfl rfl
       ·rw [hb30]; try simp only [hb30,bb] at hR
        refine af rfl (ae (.bool (decide (c0.Dist = 0))) (af rfl ?_))
        rcases qq (decide (c0.Dist = 0)) with hb31 | hb31
        ·rw [hb31]; try simp only [hb31,bb] at hR
         refine ag rfl rfl (ae (.bool false) (af rfl ?_))
         iterate 4 refine ag rfl rfl ?_
         refine ae (.bool false) (af rfl (aa (aj ?_)))
         subst hR
         exact ai [] (.inr rfl) rfl rfl rfl rfl
        ·rw [hb31]; try simp only [hb31,bb] at hR
         refine af rfl (ae (.bool (decide (c0.From = 0))) (af rfl ?_))
         rcases qq (decide (c0.From = 0)) with hb32 | hb32
         ·rw [hb32]; try simp only [hb32,bb] at hR
          iterate 4 refine ag rfl rfl ?_
          refine ae (.bool false) (af rfl (aa (aj ?_)))
          subst hR
          exact ai [] (.inr rfl) rfl rfl rfl rfl
         ·rw [hb32]; try simp only [hb32,bb] at hR
          refine ae (.ptr 0 9) (ae (.ro 2 (c0.Hops.map THop.c)) (ar (v':=.int .i64 (c0.Hops.length:Int)) rfl rfl rfl rfl (ww _ _) ?_))
          generalize hc54:F123 (c0.Hops.length:Int) 1 8 = c54 at hR
          try dsimp only at hR
          refine av (r:=.bool c54) rfl rfl rfl (f123_ok (c0.Hops.length:Int) 1 8 _ hc54) rfl rfl (ae (.bool c54) (af rfl (aa (aj ?_))))
          subst hR
          exact ai [] (.inr rfl) rfl rfl rfl rfl
   ·rw [hb26]; try simp only [hb26,bb] at hR
    refine ag rfl rfl (ag rfl rfl (ag rfl rfl (ae (.bool true) (ae (.bool true) (af rfl (aa (ah qv (ae (.ptr 0 0) (ae (.agg (zy.c c0.P)) ?_)))))))))
    generalize hc28:F124 c0.P = c28 at hR
    try dsimp only at hR
    refine av (r:=.bool c28) rfl rfl rfl (f124_ok c0.P _ hc28) rfl rfl (af rfl ?_)
    rcases qq (c28) with hb33 | hb33
    ·rw [hb33]; try simp only [hb33,bb] at hR
     refine ag rfl rfl (ag rfl rfl (ag rfl rfl (ae (.bool false) (af rfl (ag rfl rfl (ag rfl rfl (ag rfl rfl (ae (.bool false) (af rfl (ag rfl rfl (ag rfl rfl (ag rfl rfl (ae (.bool false) ?_)))))))))))))
     refine af rfl (ag rfl rfl (ae (.bool false) (af rfl (ag rfl rfl (ae (.bool false) (af rfl ?_))))))
     iterate 4 refine ag rfl rfl ?_
     refine ae (.bool false) (af rfl (aa (aj ?_)))
     subst hR
     exact ai [] (.inr rfl) rfl rfl rfl rfl
    ·rw [hb33]; try simp only [hb33,bb] at hR
     refine ae (.ptr 0 2) (ae (.int .i64 c0.Proto) ?_)
     generalize hc32:F123 c0.Proto 0 5 = c32 at hR
     try dsimp only at hR
     refine av (r:=.bool c32) rfl rfl rfl (f123_ok c0.Proto 0 5 _ hc32) rfl rfl (ae (.bool c32) (af rfl ?_))
     rcases qq (c32) with hb34 | hb34
     ·rw [hb34]; try simp only [hb34,bb] at hR
      refine ag rfl rfl (ag rfl rfl (ag rfl rfl (ae (.bool false) (af rfl (ag rfl rfl (ag rfl rfl (ag rfl rfl (ae (.bool false) (af rfl (ag rfl rfl (ae (.bool false) (af rfl (ag rfl rfl ?_)))))))))))))
      refine ae (.bool false) (af rfl ?_)
      iterate 4 refine ag rfl rfl ?_
      refine ae (.bool false) (af rfl (aa (aj ?_)))
      subst hR
      exact ai [] (.inr rfl) rfl rfl rfl rfl
     ·rw [hb34]; try simp only [hb34,bb] at hR
      refine ae (.ptr 0 3) (ae (.int .i64 c0.Inst) ?_)
      generalize hc37:F123 c0.Inst 0 99 = c37 at hR
      try dsimp only at hR
      refine av (r:=.bool c37) rfl rfl rfl (f123_ok c0.Inst 0 99 _ hc37) rfl rfl (ae (.bool c37) (af rfl ?_))
      rcases qq (c37) with hb35 | hb35
      ·rw [hb35]; try simp only [hb35,bb] at hR
       refine ag rfl rfl (ag rfl rfl (ag rfl rfl (ae (.bool false) (af rfl (ag rfl rfl (ae (.bool false) (af rfl (ag rfl rfl (ae (.bool false) (af rfl ?_))))))))))
       iterate 4 refine ag rfl rfl ?_
       refine ae (.bool false) (af rfl (aa (aj ?_)))
       subst hR
       exact ai [] (.inr rfl) rfl rfl rfl rfl
      ·rw [hb35]; try simp only [hb35,bb] at hR
       refine ae (.ptr 0 5) (ae (.int .i64 c0.Metric) (ae (.bool (decide (0 ≤ c0.Metric))) (ae (.bool (decide (0 ≤ c0.Metric))) (af rfl ?_))))
       rcases qq (decide (0 ≤ c0.Metric)) with hb36 | hb36
       ·rw [hb36]; try simp only [hb36,bb] at hR
        refine ag rfl rfl (ae (.bool false) (af rfl (ag rfl rfl (ae (.bool false) (af rfl ?_)))))
        iterate 4 refine ag rfl rfl ?_
        refine ae (.bool false) (af rfl (aa (aj ?_)))
        subst hR
        exact ai [] (.inr rfl) rfl rfl rfl rfl
       ·rw [hb36]; try simp only [hb36,bb] at hR
        refine af rfl (ae (.bool (decide (c0.Dist = 0))) (af rfl ?_))
        rcases qq (decide (c0.Dist = 0)) with hb37 | hb37
        ·rw [hb37]; try simp only [hb37,bb] at hR
         refine ag rfl rfl (ae (.bool false) (af rfl ?_))
         iterate 4 refine ag rfl rfl ?_
         refine ae (.bool false) (af rfl (aa (aj ?_)))
         subst hR
         exact ai [] (.inr rfl) rfl rfl rfl rfl
        ·rw [hb37]; try simp only [hb37,bb] at hR
         refine af rfl (ae (.bool true) (af rfl (ae (.ptr 0 9) (ae (.ro 2 (c0.Hops.map THop.c)) (ar (v':=.int .i64 (c0.Hops.length:Int)) rfl rfl rfl rfl (ww _ _) ?_)))))
         generalize hc54:F123 (c0.Hops.length:Int) 1 8 = c54 at hR
         try dsimp only at hR
         refine av (r:=.bool c54) rfl rfl rfl (f123_ok (c0.Hops.length:Int) 1 8 _ hc54) rfl rfl (ae (.bool c54) (af rfl (aa (aj ?_))))
         subst hR
         exact ai [] (.inr rfl) rfl rfl rfl rfl
theorem f90_ok (x0:List qj) (target1:qj) (gcmp2:FuncId) (gcmp2f gcmp2c:List PVal) (hcmp2:qj → qj → Int) (gcmp2k:PVal.closed.go gcmp2f = true ∧ PVal.closed.go gcmp2c = true) (gcmp2o : ∀ (y0:qj) (y1:qj) (R:Int),hcmp2 y0 y1 = R → FnOk Tryz.prog gcmp2 (gcmp2f ++ [.agg (qj.c y0),.agg (qj.c y1)] ++ gcmp2c) [] 0 (.int .i64 R) [] 0) (R:Int × Bool) (hR:F90 x0 target1 hcmp2 = some R):FnOk Tryz.prog 90 [.ro 10 (x0.map qj.c),.agg (qj.c target1),.fn gcmp2 gcmp2f gcmp2c] [] 0 (.tup [.int .i64 R.1,.bool R.2]) [] 0:=by
 refine FnOk.wk i90 rfl rfl ?_
 unfold F90 at hR
 try dsimp only at hR
 change WK _ _ _ [ac90] _ ⟨[(0,.ro 10 (x0.map qj.c)),(1,.agg (qj.c target1)),(2,.fn gcmp2 gcmp2f gcmp2c)],[],0⟩
 unfold ac90
 refine ah qv (aw (v':=.ptr 0 0) (zj:=[(0,.box (qj.c target1))]) (zk:=1) rfl rfl rfl rfl rfl rfl rfl (af rfl (af rfl (aa (ah qv (af rfl (ar (v':=.int .i64 (x0.length:Int)) rfl rfl rfl rfl (ww _ _) (af rfl (aa (ah qv (af rfl (af rfl (af rfl ?_)))))))))))))
 refine aa (ak ?_)
 refine bq (t:=0) rfl (by simp) (fun hln0_13=>?_)
 rw [List.length_map] at hln0_13
 generalize gi13:F90l1 x0 target1 hcmp2 100 0 (x0.length:Int) = gh13 at hR
 refine aY (fun k s=>∃ (i9:Int) (j10:Int),F90l1 x0 target1 hcmp2 k i9 j10 = gh13 ∧ s = ⟨[(0,.ro 10 (x0.map qj.c)),(2,.fn gcmp2 gcmp2f gcmp2c),(4,.ptr 0 0),(8,.int .i64 (x0.length:Int)),(9,.int .i64 i9),(10,.int .i64 j10)],[(0,.box (qj.c target1))],1⟩) 100 (by refine ⟨_,?_,0,(x0.length:Int),gi13,rfl⟩; exact Conv.keep [0] [] [0,2,4,8,9,10] rfl rfl (qx rfl rfl (qx rfl (aM gcmp2k) (qx rfl rfl (qx rfl rfl (qx rfl rfl (qx rfl rfl qy)))))) rfl rfl) ?_
 rintro k13 _ ⟨i9,j10,gg13,rfl⟩ gb13 gd13 gk13 ga13 gc13 gf13
 rcases k13 with _ | f13
 ·unfold F90l1 at gg13
  subst gg13
  first | replace hR:=wz hR | replace hR:=aJ hR
  cases hR
 unfold F90l1 at gg13; try dsimp only at gg13
 refine ak (ah qv (af rfl (af rfl (ae (.bool (decide (i9 < j10))) (aa ?_)))))
 rcases qq (decide (i9 < j10)) with hb14 | hb14
 ·rw [hb14]; try simp only [hb14,bb] at gg13
  refine aq rfl (aT ?_)
  refine aU (gc13 _ ?_)
  subst gg13
  replace hR:=be hR; try dsimp only at hR
  refine ak (aE qv (aG rfl (aG rfl (aG rfl (au (.bool (decide (i9 < (x0.length:Int)))) (aG rfl ?_))))))
  rcases qq (decide (i9 < (x0.length:Int))) with hb15 | hb15
  ·rw [hb15]; first | replace hR:=kw hb15 hR | (try simp only [hb15,bb] at hR)
   iterate 8 refine bE rfl rfl ?_
   refine au (.bool false) (aG rfl (aG rfl (aH rfl (aj ?_))))
   obtain rfl:=Option.some.inj hR
   exact ai [] (.inr rfl) rfl rfl rfl rfl
  ·rw [hb15]; first | replace hR:=kz hb15 hR | (try simp only [hb15,bb] at hR)
   iterate 3 refine aG rfl ?_
   obtain ⟨x915,hx915,hR⟩:=wx hR; try dsimp only at hR
   obtain ⟨hx9150,hx915j,hx915l,hx915⟩:=ky hx915
   refine bn (c:=qj.c) (x:=x915) rfl rfl rfl hx9150 hx915 (au (.agg (qj.c x915)) (au (.agg (qj.c target1)) ?_))
   generalize hc46:hcmp2 x915 target1 = c46 at hR
   try dsimp only at hR
   refine bQ (r:=.int .i64 c46) rfl rfl rfl (gcmp2o x915 target1 _ hc46) (closed3 gcmp2k.1 rfl gcmp2k.2) rfl (au (.bool (decide (c46 = 0))) (au (.bool (decide (c46 = 0))) (aG rfl (aG rfl (aH rfl (aj ?_))))))
   obtain rfl:=Option.some.inj hR
   exact ai [] (.inr rfl) rfl rfl rfl rfl
 ·rw [hb14]; try simp only [hb14,bb] at gg13
  refine ap rfl (aA ?_)
  refine aI (fun _ hK17=>?_)
  refine ah qv (af rfl (af rfl (ae (.int .i64 (IntKind.i64.wrap (i9 + j10))) (ae (.int .u64 (IntKind.u64.wrap (IntKind.i64.wrap (i9 + j10)))) (ae (.int .u64 (Int.fdiv (IntKind.u64.wrap (IntKind.i64.wrap (i9 + j10))) (2 ^ 1))) (ae (.int .i64 (IntKind.i64.wrap (Int.fdiv (IntKind.u64.wrap (IntKind.i64.wrap (i9 + j10))) (2 ^ 1)))) (af rfl (aa (ak (aE qv (aG rfl (aG rfl (aG rfl ?_)))))))))))))
  rcases wy gg13 with ⟨_,gg13⟩ | ⟨x917,hx917,gg13⟩
  ·subst gg13
   first | replace hR:=wz hR | replace hR:=aJ hR
   cases hR
  try dsimp only at gg13
  obtain ⟨hx9170,hx917j,hx917l,hx917⟩:=ky hx917
  refine bn (c:=qj.c) (x:=x917) rfl rfl rfl hx9170 hx917 (au (.agg (qj.c x917)) (au (.agg (qj.c target1)) ?_))
  generalize hc30:hcmp2 x917 target1 = c30 at gg13
  try dsimp only at gg13
  refine bQ (r:=.int .i64 c30) rfl rfl rfl (gcmp2o x917 target1 _ hc30) (closed3 gcmp2k.1 rfl gcmp2k.2) rfl (au (.bool (decide (c30 < 0))) (aH rfl ?_))
  rcases qq (decide (c30 < 0)) with hb19 | hb19
  ·rw [hb19]; try simp only [hb19,bb] at gg13
   refine aq rfl (az qv (af rfl (af rfl (aa ?_))))
   refine aB (am (hK17 _ ?_))
   refine aB (am ?_)
   refine ga13 _ f13 _ (Nat.lt_succ_self _) ?_ ⟨i9,(IntKind.i64.wrap (Int.fdiv (IntKind.u64.wrap (IntKind.i64.wrap (i9 + j10))) (2 ^ 1))),gg13,rfl⟩
   exact Conv.keep [0] [] [0,2,4,8,9,10] rfl rfl (qx rfl rfl (qx rfl (aM gcmp2k) (qx rfl rfl (qx rfl rfl (qx rfl rfl (qx rfl rfl qy)))))) rfl rfl
  ·rw [hb19]; try simp only [hb19,bb] at gg13
   refine ap rfl (az qv (af rfl (ae (.int .i64 (IntKind.i64.wrap ((IntKind.i64.wrap (Int.fdiv (IntKind.u64.wrap (IntKind.i64.wrap (i9 + j10))) (2 ^ 1))) + 1))) (af rfl (aa ?_)))))
   refine aB (am (hK17 _ ?_))
   refine aB (am ?_)
   refine ga13 _ f13 _ (Nat.lt_succ_self _) ?_ ⟨(IntKind.i64.wrap ((IntKind.i64.wrap (Int.fdiv (IntKind.u64.wrap (IntKind.i64.wrap (i9 + j10))) (2 ^ 1))) + 1)),j10,gg13,rfl⟩
   exact Conv.keep [0] [] [0,2,4,8,9,10] rfl rfl (qx rfl rfl (qx rfl (aM gcmp2k) (qx rfl rfl (qx rfl rfl (qx rfl rfl (qx rfl rfl qy)))))) rfl rfl
theorem f128_ok (c0:qj) (R:Int) (hR:F128 c0 = R):FnOk Tryz.prog 128 [.agg (qj.c c0)] [] 0 (.int .i64 R) [] 0:=by
 refine FnOk.wk i128 rfl rfl ?_
 unfold F128 at hR
 change WK _ _ _ [ac128] _ ⟨[(0,.agg (qj.c c0))],[],0⟩
 unfold ac128
 refine ah qv (aw (v':=.ptr 0 0) (zj:=[(0,.box (qj.c c0))]) (zk:=1) rfl rfl rfl rfl rfl rfl rfl (af rfl (aa (ak (ah qv (ae (.ptr 0 7) (ae (.bool c0.Leaked) (aa ?_))))))))
 rcases qq (c0.Leaked) with hb1 | hb1
 ·rw [hb1]; try simp only [hb1,bb] at hR
  refine aq rfl (aA (ah qv (af rfl (aa (aj ?_)))))
  subst hR
  exact ai [] (.inr rfl) rfl rfl rfl rfl
 ·rw [hb1]; try simp only [hb1,bb] at hR
  refine ap rfl (ah qv (af rfl (aa (aj ?_))))
  subst hR
  exact ai [] (.inr rfl) rfl rfl rfl rfl
theorem f91_ok (a0:qj) (b1:qj) (R:Int) (hR:F91 a0 b1 = R):FnOk Tryz.prog 91 [.agg (qj.c a0),.agg (qj.c b1)] [] 0 (.int .i64 R) [] 0:=by
 refine FnOk.wk i91 rfl rfl ?_
 unfold F91 at hR
 change WK _ _ _ [ac91] _ ⟨[(0,.agg (qj.c a0)),(1,.agg (qj.c b1))],[],0⟩
 unfold ac91
 refine ah qv (aw (v':=.ptr 0 0) (zj:=[(0,.box (qj.c a0))]) (zk:=1) rfl rfl rfl rfl rfl rfl rfl (aw (v':=.ptr 1 0) (zj:=[(0,.box (qj.c a0)),(1,.box (qj.c b1))]) (zk:=2) rfl rfl rfl rfl rfl rfl rfl (af rfl (aa (ak (aE qv (au (.ptr 0 0) (au (.ptr 0 0) (au (.int .u32 a0.P.A) (au (.ptr 1 0) (au (.ptr 1 0) (au (.int .u32 b1.P.A) ?_))))))))))))
 generalize hc11:F126 a0.P.A b1.P.A = c11 at hR
 try dsimp only at hR
 refine aL (r:=.int .i64 c11) rfl rfl rfl (f126_ok a0.P.A b1.P.A _ hc11) rfl rfl (au (.ptr 0 0) (au (.ptr 0 1) (au (.int .i64 a0.P.N) (au (.ptr 1 0) (au (.ptr 1 1) (au (.int .i64 b1.P.N) ?_))))))
 generalize hc18:F127 a0.P.N b1.P.N = c18 at hR
 try dsimp only at hR
 refine aL (r:=.int .i64 c18) rfl rfl rfl (f127_ok a0.P.N b1.P.N _ hc18) rfl rfl (au (.agg (qj.c a0)) ?_)
 generalize hc20:F128 a0 = c20 at hR
 try dsimp only at hR
 refine aL (r:=.int .i64 c20) rfl rfl rfl (f128_ok a0 _ hc20) rfl rfl (au (.agg (qj.c b1)) ?_)
 generalize hc22:F128 b1 = c22 at hR
 try dsimp only at hR
 refine aL (r:=.int .i64 c22) rfl rfl rfl (f128_ok b1 _ hc22) rfl rfl (au (.int .i64 (IntKind.i64.wrap (c20 - c22))) (au (.ptr 0 8) (au (.int .i64 a0.From) (au (.ptr 1 8) (au (.int .i64 b1.From) ?_)))))
 generalize hc28:F127 a0.From b1.From = c28 at hR
 try dsimp only at hR
 refine aL (r:=.int .i64 c28) rfl rfl rfl (f127_ok a0.From b1.From _ hc28) rfl rfl (au (.ptr 0 2) (au (.int .i64 a0.Proto) (au (.ptr 1 2) (au (.int .i64 b1.Proto) ?_))))
 generalize hc33:F127 a0.Proto b1.Proto = c33 at hR
 try dsimp only at hR
 refine aL (r:=.int .i64 c33) rfl rfl rfl (f127_ok a0.Proto b1.Proto _ hc33) rfl rfl (au (.ptr 0 3) (au (.int .i64 a0.Inst) (au (.ptr 1 3) (au (.int .i64 b1.Inst) ?_))))
 generalize hc38:F127 a0.Inst b1.Inst = c38 at hR
 try dsimp only at hR
 refine aL (r:=.int .i64 c38) rfl rfl rfl (f127_ok a0.Inst b1.Inst _ hc38) rfl rfl (bj (v':=.own 2 1 0 (([c11,c18,IntKind.i64.wrap (c20 - c22),c28,c33,c38]:List Int)).length) (zj:=[(0,.box (qj.c a0)),(1,.box (qj.c b1)),(2,.row 1 3 (([c11,c18,IntKind.i64.wrap (c20 - c22),c28,c33,c38]:List Int).map co))]) (zk:=3) rfl rfl rfl rfl rfl rfl rfl ?_)
 generalize hc40:F125 ([c11,c18,IntKind.i64.wrap (c20 - c22),c28,c33,c38]:List Int) = c40 at hR
 try dsimp only at hR
 refine dx (r:=.int .i64 c40) [2] rfl rfl rfl (qz (aN rfl rfl) qw) (f125_ok ([c11,c18,IntKind.i64.wrap (c20 - c22),c28,c33,c38]:List Int) _ hc40) rfl rfl (aG rfl (da [0,1,3,0,8,24,63,0,128,384,0,1024,3072,8191,0,32767,0,131071,262143,0,524288,0,2097152,8126463,0,16777216,0,67108864,268173311,0,536870912,0,2147483648,8589672447,17179869183,34359738367,68719476735] (by kernel_rfl) (by kernel_rfl) (by kernel_rfl) (aj ?_)))
 subst hR
 exact ai [] (.inr rfl) rfl rfl rfl rfl
theorem f48_ok (t0:qk) (c1:qj) (R:qk × Int) (hR:F48 t0 c1 = some R):FnOk Tryz.prog 48 [.agg (qk.c t0),.agg (qj.c c1)] [] 0 (.tup [.agg (qk.c R.1),.int .i64 R.2]) [] 0:=by
 refine FnOk.wk i48 rfl rfl ?_
 unfold F48 at hR
 try dsimp only at hR
 change WK _ _ _ [ac48] _ ⟨[(0,.agg (qk.c t0)),(1,.agg (qj.c c1))],[],0⟩
 unfold ac48
 refine ah qv (aw (v':=.ptr 0 0) (zj:=[(0,.box (qk.c t0))]) (zk:=1) rfl rfl rfl rfl rfl rfl rfl (aw (v':=.ptr 1 0) (zj:=[(0,.box (qk.c t0)),(1,.box (qj.c c1))]) (zk:=2) rfl rfl rfl rfl rfl rfl rfl (aw (v':=.ptr 2 0) (zj:=[(0,.box (qk.c t0)),(1,.box (qj.c c1)),(2,.box [.nils])]) (zk:=3) rfl rfl rfl rfl rfl rfl rfl (af rfl (aa (ak (ah qv (ae (.agg (qj.c c1)) ?_))))))))
 generalize hc10:F89 c1 = c10 at hR
 try dsimp only at hR
 refine av (r:=.bool c10) rfl rfl rfl (f89_ok c1 _ hc10) rfl rfl (ae (.bool (!c10)) (aa ?_))
 rcases qq (c10) with hb1 | hb1
 ·rw [hb1]; first | replace hR:=kw hb1 hR | (try simp only [hb1,bb] at hR)
  refine ap rfl (ah qv (ae (.agg (qk.c t0)) (ay (zj:=[(0,.box (qk.c t0)),(1,.box (qj.c c1)),(2,.box (qk.c t0))]) (zk:=3) rfl rfl rfl rfl rfl (af rfl (aa (aj ?_))))))
  obtain rfl:=Option.some.inj hR
  exact ai [] (.inr rfl) rfl rfl rfl rfl
 ·rw [hb1]; first | replace hR:=kz hb1 hR | (try simp only [hb1,bb] at hR)
  refine aq rfl (aA (ah qv (ae (.ptr 0 0) (ae (.ro 10 (t0.L.map qj.c)) (ae (.agg (qj.c c1)) ?_)))))
  obtain ⟨c17,hc17,hR⟩:=wx hR; try dsimp only at hR
  refine av (r:=.tup [.int .i64 c17.1,.bool c17.2]) rfl rfl rfl (f90_ok t0.L c1 91 [] [] (fun y0 y1=>F91 y0 y1) ⟨rfl,rfl⟩ (fun y0 y1 _ hr=>f91_ok y0 y1 _ hr) _ hc17) rfl rfl (af rfl (ae (.int .i64 c17.1) (ae (.bool c17.2) (af rfl (af rfl (aa (ah qv (ae (.ptr 0 0) (ae (.ro 10 (t0.L.map qj.c)) ?_)))))))))
  obtain ⟨hg2,hg2_,hR⟩:=gd hR; try dsimp only at hR
  refine bd (r':=.own 3 10 0 t0.L.length) (zj:=[(0,.box (qk.c t0)),(1,.box (qj.c c1)),(2,.box [.nils]),(3,.row 10 42 (t0.L.map qj.c))]) (zk:=4) [] [] rfl rfl rfl rfl rfl rfl (cS (c:=qj.c) qv i85 t0.L (by decide) (by omega) (by omega)) (.inl rfl) rfl rfl rfl (af rfl (aa (ak ?_)))
  refine aI (fun _ hK3=>?_)
  refine ah qv (af rfl (af rfl (aa ?_)))
  rcases qq (c17.2) with hb4 | hb4
  ·rw [hb4]; first | replace hR:=kw hb4 hR | (try simp only [hb4,bb] at hR)
   refine aq rfl (ah qv (af rfl (ae (.int .i64 (t0.L.length:Int)) (ae (.bool (decide (500 ≤ (t0.L.length:Int)))) (af rfl (aa ?_))))))
   rcases qq (decide (500 ≤ (t0.L.length:Int))) with hb5 | hb5
   ·rw [hb5]; first | replace hR:=kw hb5 hR | (try simp only [hb5,bb] at hR)
    refine aq rfl (az qv (af rfl (af rfl (ae (.agg (qj.c c1)) (aw (v':=.own 4 10 0 (([c1]:List qj)).length) (zj:=[(0,.box (qk.c t0)),(1,.box (qj.c c1)),(2,.box [.nils]),(3,.row 10 42 (t0.L.map qj.c)),(4,.row 10 42 (([c1]:List qj).map qj.c))]) (zk:=5) rfl rfl rfl rfl rfl rfl rfl ?_)))))
    obtain ⟨hg6,hg6_,hR⟩:=gd hR; try dsimp only at hR
    obtain ⟨hg7,hg7_,hR⟩:=gd hR; try dsimp only at hR
    refine bd (r':=.own 5 10 0 (db t0.L c17.1 ([c1]:List qj)).length) (zj:=[(0,.box (qk.c t0)),(1,.box (qj.c c1)),(2,.box [.nils]),(5,.row 10 42 ((db t0.L c17.1 ([c1]:List qj)).map qj.c))]) (zk:=6) [3,4] [] rfl rfl rfl rfl rfl rfl (eQ (c:=qj.c) (fun _=>rfl) qv i92 ov92 t0.L ([c1]:List qj) c17.1 rfl rfl (by omega) (by omega) (by (simp; done)) (by ((try simp only [List.length_append,List.length_cons,List.length_nil,List.length_map,decide_eq_true_eq,decide_eq_false_iff_not] at *) <;> omega)) (by ((try simp only [List.length_append,List.length_cons,List.length_nil,List.length_map,decide_eq_true_eq,decide_eq_false_iff_not] at *) <;> omega))) (.inl rfl) rfl rfl rfl (af rfl (aa ?_))
    refine aB (am (hK3 _ ?_))
    refine ah qv (af rfl (ae (.agg [.own 5 10 0 (db t0.L c17.1 ([c1]:List qj)).length]) (ay (zj:=[(0,.box (qk.c t0)),(1,.box (qj.c c1)),(2,.box [.own 5 10 0 (db t0.L c17.1 ([c1]:List qj)).length]),(5,.row 10 42 ((db t0.L c17.1 ([c1]:List qj)).map qj.c))]) (zk:=6) rfl rfl rfl rfl rfl (af rfl (aa (aj ?_))))))
    obtain rfl:=Option.some.inj hR
    exact ai [5] (.inr rfl) rfl rfl (qz (bG (qz (aN rfl rfl) qw)) (qz rfl qw)) rfl
   ·rw [hb5]; first | replace hR:=kz hb5 hR | (try simp only [hb5,bb] at hR)
    refine ap rfl (ah qv (ae (.agg (qk.c t0)) (ay (zj:=[(0,.box (qk.c t0)),(1,.box (qj.c c1)),(2,.box (qk.c t0)),(3,.row 10 42 (t0.L.map qj.c))]) (zk:=4) rfl rfl rfl rfl rfl (af rfl (aa (aj (aS ?_)))))))
    obtain rfl:=Option.some.inj hR
    exact ai [] (.inr rfl) rfl rfl rfl rfl
  ·rw [hb4]; first | replace hR:=kz hb4 hR | (try simp only [hb4,bb] at hR)
   refine ap rfl (az qv (af rfl (af rfl (ae (.agg (qj.c c1)) ?_))))
   obtain ⟨x907,hx907,hR⟩:=wx hR; try dsimp only at hR
   obtain ⟨hx9070,hx907j,hx907l,hx907⟩:=ky hx907
   refine ar (v':=.eptr 3 10 c17.1.toNat 0) rfl rfl rfl (aK (c:=qj.c) (L:=t0.L) (j:=c17.1.toNat) rfl hx907j hx907l (by exact Nat.le_refl _)) rfl (ay (zj:=[(0,.box (qk.c t0)),(1,.box (qj.c c1)),(2,.box [.nils]),(3,.row 10 42 ((t0.L.set c17.1.toNat c1).map qj.c))]) (zk:=4) rfl rfl (bw (c:=qj.c) (L:=t0.L) (x:=x907) (x':=c1) rfl hx907 rfl rfl rfl rfl rfl) rfl rfl (aa ?_))
   refine aB (am (hK3 _ ?_))
   refine ah qv (af rfl (ae (.agg [.own 3 10 0 t0.L.length]) (ay (zj:=[(0,.box (qk.c t0)),(1,.box (qj.c c1)),(2,.box [.own 3 10 0 t0.L.length]),(3,.row 10 42 ((t0.L.set c17.1.toNat c1).map qj.c))]) (zk:=4) rfl rfl rfl rfl rfl (af rfl (aa (aj ?_))))))
   obtain rfl:=Option.some.inj hR
   exact ai [3] (.inr rfl) rfl rfl (qz (bG (qz (fz rfl rfl (by simp)) qw)) (qz rfl qw)) rfl
theorem f69_ok (n0:TNet) (at1:Int) (t2:qk) (c3:qj) (R:TNet) (hR:F69 n0 at1 t2 c3 = some R):FnOk Tryz.prog 69 [.agg (TNet.c n0),.int .i64 at1,.agg (qk.c t2),.agg (qj.c c3)] [] 0 (.agg (TNet.c R)) [] 0:=by
 refine FnOk.wk i69 rfl rfl ?_
 unfold F69 at hR
 try dsimp only at hR
 change WK _ _ _ [ac69] _ ⟨[(0,.agg (TNet.c n0)),(1,.int .i64 at1),(2,.agg (qk.c t2)),(3,.agg (qj.c c3))],[],0⟩
 unfold ac69
 refine ah qv (aw (v':=.ptr 0 0) (zj:=[(0,.box (TNet.c n0))]) (zk:=1) rfl rfl rfl rfl rfl rfl rfl (aw (v':=.ptr 1 0) (zj:=[(0,.box (TNet.c n0)),(1,.box (qk.c t2))]) (zk:=2) rfl rfl rfl rfl rfl rfl rfl (aw (v':=.ptr 2 0) (zj:=[(0,.box (TNet.c n0)),(1,.box (qk.c t2)),(2,.box (qj.c c3))]) (zk:=3) rfl rfl rfl rfl rfl rfl rfl (aw (v':=.ptr 3 0) (zj:=[(0,.box (TNet.c n0)),(1,.box (qk.c t2)),(2,.box (qj.c c3)),(3,.box [.nils,.nils,.nils,.nils,.bool false])]) (zk:=4) rfl rfl rfl rfl rfl rfl rfl (aa (ah qv (ae (.agg (TNet.c n0)) ?_)))))))
 obtain ⟨c13,hc13,hR⟩:=wx hR; try dsimp only at hR
 try dsimp only at hR
 refine bd (r':=.ptr 4 0) (zj:=[(0,.box (TNet.c n0)),(1,.box (qk.c t2)),(2,.box (qj.c c3)),(3,.box [.nils,.nils,.nils,.nils,.bool false]),(8,.row 3 108 (c13.Work.map zw.c)),(7,.row 3 84 (c13.L.map zz.c)),(6,.row 1 34 (c13.Sel.map (wv 10 qj.c))),(5,.row 1 36 (c13.T.map qk.c)),(4,.box [.own 5 1 0 c13.T.length,.own 6 1 0 c13.Sel.length,.own 7 3 0 c13.L.length,.own 8 3 0 c13.Work.length,.bool c13.Over])]) (zk:=9) [] [] rfl rfl rfl rfl rfl rfl (f41_ok n0 _ hc13) (.inl rfl) rfl rfl rfl (af rfl (aa (ak (aE qv (aG rfl (au (.ptr 4 0) (au (.ptr 4 0) (au (.own 5 1 0 c13.T.length) (aG rfl (au (.agg (qk.c t2)) ?_))))))))))
 obtain ⟨x901,hx901,hR⟩:=wx hR; try dsimp only at hR
 obtain ⟨hx9010,hx901j,hx901l,hx901⟩:=ky hx901
 refine aF (v':=.eptr 5 1 at1.toNat 0) rfl rfl rfl (aK (c:=qk.c) (L:=c13.T) (j:=at1.toNat) rfl hx901j hx901l (by exact Nat.le_refl _)) rfl (aV (zj:=[(0,.box (TNet.c n0)),(1,.box (qk.c t2)),(2,.box (qj.c c3)),(3,.box [.nils,.nils,.nils,.nils,.bool false]),(8,.row 3 108 (c13.Work.map zw.c)),(7,.row 3 84 (c13.L.map zz.c)),(6,.row 1 34 (c13.Sel.map (wv 10 qj.c))),(5,.row 1 36 ((c13.T.set at1.toNat t2).map qk.c)),(4,.box [.own 5 1 0 c13.T.length,.own 6 1 0 c13.Sel.length,.own 7 3 0 c13.L.length,.own 8 3 0 c13.Work.length,.bool c13.Over])]) (zk:=9) rfl rfl (bw (c:=qk.c) (L:=c13.T) (x:=x901) (x':=t2) rfl hx901 rfl rfl rfl rfl rfl) rfl rfl (aH rfl (ak ?_)))
 refine bz (st':=⟨[(1,.int .i64 at1),(6,.ptr 0 0),(7,.ptr 1 0),(8,.ptr 2 0),(9,.ptr 3 0)],[(0,.box (qk.c t2)),(1,.box (qj.c c3)),(2,.box [.nils,.nils,.nils,.nils,.bool false]),(3,.box [.own 4 1 0 c13.T.length,.own 5 1 0 c13.Sel.length,.ro 3 (c13.L.map zz.c),.own 6 3 0 c13.Work.length,.bool c13.Over]),(4,.row 1 36 ((c13.T.set at1.toNat t2).map qk.c)),(5,.row 1 34 (c13.Sel.map (wv 10 qj.c))),(6,.row 3 108 (c13.Work.map zw.c))],7⟩) (Conv.keep [1,2,3,4,5,6,8] [7] [1,6,7,8,9] rfl rfl (qx rfl rfl (qx rfl rfl (qx rfl rfl (qx rfl rfl (qx rfl rfl qy))))) (kx rfl rfl (kx rfl rfl (kx rfl rfl (kx rfl (bN (qz rfl (qz rfl (qz (aN rfl rfl) (qz rfl (qz rfl qw)))))) (kx rfl rfl (kx rfl rfl (kx rfl rfl cE))))))) rfl) ?_ (by simp)
 refine az qv (af rfl (af rfl (ae (.ptr 1 0) (ae (.agg (zy.c c3.P)) ?_))))
 obtain ⟨c25,hc25,hR⟩:=wx hR; try dsimp only at hR
 try dsimp only at hR
 refine bd (r':=.tup []) (zj:=[(0,.box (qk.c t2)),(1,.box (qj.c c3)),(2,.box [.nils,.nils,.nils,.nils,.bool false]),(3,.box [.own 7 1 0 c25.T.length,.own 8 1 0 c25.Sel.length,.ro 3 (c25.L.map zz.c),.own 9 3 0 c25.Work.length,.bool c25.Over]),(9,.row 3 108 (c25.Work.map zw.c)),(8,.row 1 34 (c25.Sel.map (wv 10 qj.c))),(7,.row 1 36 (c25.T.map qk.c))]) (zk:=10) [3,4,5,6] [] rfl rfl rfl rfl rfl rfl (by have hst:=(f68_ok (⟨(c13.T.set at1.toNat t2),c13.Sel,c13.L,c13.Work,c13.Over⟩ : TNet) at1 c3.P _ hc25); simp only [List.length_set] at hst; exact hst) (.inl rfl) rfl rfl rfl (aa (ak (ah qv (ae (.ptr 0 0) (ae (.ro 10 (t2.L.map qj.c)) (ar (v':=.int .i64 (t2.L.length:Int)) rfl rfl rfl rfl (ww _ _) (af rfl (aa ?_))))))))
 refine bq (t:=27) rfl (by simp) (fun ge11=>?_)
 rw [List.length_map] at ge11
 generalize gi11:F69l1 at1 c3 c25 t2.L = gh11 at hR
 refine aY (fun k s=>∃ (i29:Nat) (k9:TNet),i29 ≤ t2.L.length ∧ k = t2.L.length - i29 ∧ F69l1 at1 c3 k9 (t2.L.drop i29) = gh11 ∧ s = ⟨[(1,.int .i64 at1),(7,.ptr 0 0),(8,.ptr 1 0),(9,.ptr 2 0),(27,.ro 10 (t2.L.map qj.c)),(28,.int .i64 (t2.L.length:Int)),(29,.int .i64 (i29:Int))],[(0,.box (qj.c c3)),(1,.box [.nils,.nils,.nils,.nils,.bool false]),(2,.box [.own 3 1 0 k9.T.length,.own 4 1 0 k9.Sel.length,.ro 3 (k9.L.map zz.c),.own 5 3 0 k9.Work.length,.bool k9.Over]),(3,.row 1 36 (k9.T.map qk.c)),(4,.row 1 34 (k9.Sel.map (wv 10 qj.c))),(5,.row 3 108 (k9.Work.map zw.c))],6⟩) t2.L.length (by refine ⟨_,?_,0,c25,(by omega),rfl,gi11,rfl⟩; exact Conv.keep [1,2,3,7,8,9] [] [1,7,8,9,27,28,29] rfl rfl (qx rfl rfl (qx rfl rfl (qx rfl rfl (qx rfl rfl (qx rfl rfl (qx rfl rfl (qx rfl rfl qy))))))) rfl rfl) ?_
 rintro _ _ ⟨i29,k9,gj11,rfl,gg11,rfl⟩ gb11 gd11 gk11 ga11 gc11 gf11
 refine ah qv (ae (.bool (decide ((i29:Int) < (t2.L.length:Int)))) (aa (ak ?_)))
 rcases qq (decide ((i29:Int) < (t2.L.length:Int))) with hb12 | hb12
 ·rw [hb12]
  rw [bc hb12,F69l1] at gg11
  refine aq rfl (aT ?_)
  refine aU (gc11 _ ?_)
  subst gg11
  replace hR:=be hR; try dsimp only at hR
  refine ah qv (af rfl (ae (.ptr 2 0) (ae (.agg [.own 3 1 0 k9.T.length,.own 4 1 0 k9.Sel.length,.ro 3 (k9.L.map zz.c),.own 5 3 0 k9.Work.length,.bool k9.Over]) (ay (zj:=[(0,.box (qj.c c3)),(1,.box [.own 3 1 0 k9.T.length,.own 4 1 0 k9.Sel.length,.ro 3 (k9.L.map zz.c),.own 5 3 0 k9.Work.length,.bool k9.Over]),(2,.box [.own 3 1 0 k9.T.length,.own 4 1 0 k9.Sel.length,.ro 3 (k9.L.map zz.c),.own 5 3 0 k9.Work.length,.bool k9.Over]),(3,.row 1 36 (k9.T.map qk.c)),(4,.row 1 34 (k9.Sel.map (wv 10 qj.c))),(5,.row 3 108 (k9.Work.map zw.c))]) (zk:=6) rfl rfl rfl rfl rfl (aa (aj ?_))))))
  obtain rfl:=Option.some.inj hR
  exact ai [3,4,5] (.inr rfl) rfl rfl (qz (bG (qz (aN rfl rfl) (qz (aN rfl rfl) (qz rfl (qz (aN rfl rfl) (qz rfl qw)))))) qw) rfl
 ·rw [hb12]
  obtain ⟨x29,hx11,hd11,hlt11⟩:=aR hb12
  rw [hd11,F69l1] at gg11
  refine ap rfl (aA (ak ?_))
  refine aI (fun _ hK13=>?_)
  refine ah qv (aZ (c:=qj.c) (x:=x29) rfl rfl rfl (Int.natCast_nonneg _) hx11 (ae (.agg (qj.c x29)) (aw (v':=.ptr 6 0) (zj:=[(0,.box (qj.c c3)),(1,.box [.nils,.nils,.nils,.nils,.bool false]),(2,.box [.own 3 1 0 k9.T.length,.own 4 1 0 k9.Sel.length,.ro 3 (k9.L.map zz.c),.own 5 3 0 k9.Work.length,.bool k9.Over]),(3,.row 1 36 (k9.T.map qk.c)),(4,.row 1 34 (k9.Sel.map (wv 10 qj.c))),(5,.row 3 108 (k9.Work.map zw.c)),(6,.box [.int .u32 0,.int .i64 0,.int .i64 0,.int .i64 0,.int .i64 0,.int .i64 0,.int .u32 0,.bool false,.int .i64 0,.nils])]) (zk:=7) rfl rfl rfl rfl rfl rfl rfl (ay (zj:=[(0,.box (qj.c c3)),(1,.box [.nils,.nils,.nils,.nils,.bool false]),(2,.box [.own 3 1 0 k9.T.length,.own 4 1 0 k9.Sel.length,.ro 3 (k9.L.map zz.c),.own 5 3 0 k9.Work.length,.bool k9.Over]),(3,.row 1 36 (k9.T.map qk.c)),(4,.row 1 34 (k9.Sel.map (wv 10 qj.c))),(5,.row 3 108 (k9.Work.map zw.c)),(6,.box (qj.c x29))]) (zk:=7) rfl rfl rfl rfl rfl (aa (ah qv (ae (.ptr 0 2) (ae (.int .i64 c3.Proto) (ae (.bool (decide (c3.Proto = 0))) (af rfl ?_))))))))))
  rcases qq (decide (c3.Proto = 0)) with hb14 | hb14
  ·rw [hb14]; try simp only [hb14,bb] at gg11
   refine ag rfl rfl (ag rfl rfl (ag rfl rfl (ae (.bool false) (af rfl (ag rfl rfl (ag rfl rfl (ag rfl rfl (ae (.bool false) (aa (aq rfl (aA ?_)))))))))))
   refine aB (am (hK13 _ ?_))
   refine az qv (ar (v':=.int .i64 ((i29 + 1:Nat):Int)) rfl rfl rfl rfl (congrArg (PVal.int .i64) (aO hlt11 ge11)) (af rfl (aa ?_)))
   refine aB (am ?_)
   refine ga11 _ (t2.L.length - (i29 + 1)) _ (by omega) ?_ ⟨i29 + 1,k9,(by omega),rfl,gg11,rfl⟩
   exact Conv.keep [0,1,2,3,4,5] [] [1,7,8,9,27,28,29] rfl rfl (qx rfl rfl (qx rfl rfl (qx rfl rfl (qx rfl rfl (qx rfl rfl (qx rfl rfl (qx rfl rfl qy))))))) rfl rfl
  ·rw [hb14]; try simp only [hb14,bb] at gg11
   refine ae (.ptr 6 2) (ae (.int .i64 x29.Proto) (ae (.bool (decide (x29.Proto = 1))) (ae (.bool (decide (x29.Proto = 1))) (af rfl ?_))))
   rcases qq (decide (x29.Proto = 1)) with hb15 | hb15
   ·rw [hb15]; try simp only [hb15,bb] at gg11
    refine ag rfl rfl (ag rfl rfl (ag rfl rfl (ae (.bool false) (aa (aq rfl (aA ?_))))))
    refine aB (am (hK13 _ ?_))
    refine az qv (ar (v':=.int .i64 ((i29 + 1:Nat):Int)) rfl rfl rfl rfl (congrArg (PVal.int .i64) (aO hlt11 ge11)) (af rfl (aa ?_)))
    refine aB (am ?_)
    refine ga11 _ (t2.L.length - (i29 + 1)) _ (by omega) ?_ ⟨i29 + 1,k9,(by omega),rfl,gg11,rfl⟩
    exact Conv.keep [0,1,2,3,4,5] [] [1,7,8,9,27,28,29] rfl rfl (qx rfl rfl (qx rfl rfl (qx rfl rfl (qx rfl rfl (qx rfl rfl (qx rfl rfl (qx rfl rfl qy))))))) rfl rfl
   ·rw [hb15]; try simp only [hb15,bb] at gg11
    refine ae (.ptr 6 7) (ae (.bool x29.Leaked) (ae (.bool (!x29.Leaked)) (ae (.bool (!x29.Leaked)) (aa ?_))))
    rcases qq (x29.Leaked) with hb16 | hb16
    ·rw [hb16]; try simp only [hb16,bb] at gg11
     refine ap rfl (az qv (af rfl (af rfl (ae (.ptr 6 0) (ae (.agg (zy.c x29.P)) ?_)))))
     rcases wy gg11 with ⟨_,gg11⟩ | ⟨c50,hc50,gg11⟩
     ·subst gg11
      first | replace hR:=wz hR | replace hR:=aJ hR
      cases hR
     try dsimp only at gg11
     try dsimp only at gg11
     refine bd (r':=.tup []) (zj:=[(0,.box (qj.c c3)),(1,.box [.nils,.nils,.nils,.nils,.bool false]),(2,.box [.own 7 1 0 c50.T.length,.own 8 1 0 c50.Sel.length,.ro 3 (c50.L.map zz.c),.own 9 3 0 c50.Work.length,.bool c50.Over]),(6,.box (qj.c x29)),(9,.row 3 108 (c50.Work.map zw.c)),(8,.row 1 34 (c50.Sel.map (wv 10 qj.c))),(7,.row 1 36 (c50.T.map qk.c))]) (zk:=10) [2,3,4,5] [] rfl rfl rfl rfl rfl rfl (f68_ok k9 at1 x29.P _ hc50) (.inl rfl) rfl rfl rfl (aa ?_)
     refine aB (am (hK13 _ ?_))
     refine az qv (ar (v':=.int .i64 ((i29 + 1:Nat):Int)) rfl rfl rfl rfl (congrArg (PVal.int .i64) (aO hlt11 ge11)) (af rfl (aa ?_)))
     refine aB (am ?_)
     refine ga11 _ (t2.L.length - (i29 + 1)) _ (by omega) ?_ ⟨i29 + 1,c50,(by omega),rfl,gg11,rfl⟩
     exact Conv.keep [0,1,2,7,8,9] [] [1,7,8,9,27,28,29] rfl rfl (qx rfl rfl (qx rfl rfl (qx rfl rfl (qx rfl rfl (qx rfl rfl (qx rfl rfl (qx rfl rfl qy))))))) rfl rfl
    ·rw [hb16]; try simp only [hb16,bb] at gg11
     refine aq rfl (aA ?_)
     refine aB (am (hK13 _ ?_))
     refine az qv (ar (v':=.int .i64 ((i29 + 1:Nat):Int)) rfl rfl rfl rfl (congrArg (PVal.int .i64) (aO hlt11 ge11)) (af rfl (aa ?_)))
     refine aB (am ?_)
     refine ga11 _ (t2.L.length - (i29 + 1)) _ (by omega) ?_ ⟨i29 + 1,k9,(by omega),rfl,gg11,rfl⟩
     exact Conv.keep [0,1,2,3,4,5] [] [1,7,8,9,27,28,29] rfl rfl (qx rfl rfl (qx rfl rfl (qx rfl rfl (qx rfl rfl (qx rfl rfl (qx rfl rfl (qx rfl rfl qy))))))) rfl rfl
theorem f27_ok (n0:TNet) (at1:Int) (c2:qj) (R:TNet × Int) (hR:F27 n0 at1 c2 = some R):FnOk Tryz.prog 27 [.agg (TNet.c n0),.int .i64 at1,.agg (qj.c c2)] [] 0 (.tup [.agg (TNet.c R.1),.int .i64 R.2]) [] 0:=by
 refine FnOk.wk i27 rfl rfl ?_
 unfold F27 at hR
 try dsimp only at hR
 change WK _ _ _ [ac27] _ ⟨[(0,.agg (TNet.c n0)),(1,.int .i64 at1),(2,.agg (qj.c c2))],[],0⟩
 unfold ac27
 refine ah qv (aw (v':=.ptr 0 0) (zj:=[(0,.box (TNet.c n0))]) (zk:=1) rfl rfl rfl rfl rfl rfl rfl (aw (v':=.ptr 1 0) (zj:=[(0,.box (TNet.c n0)),(1,.box (qj.c c2))]) (zk:=2) rfl rfl rfl rfl rfl rfl rfl (aw (v':=.ptr 2 0) (zj:=[(0,.box (TNet.c n0)),(1,.box (qj.c c2)),(2,.box [.nils,.nils,.nils,.nils,.bool false])]) (zk:=3) rfl rfl rfl rfl rfl rfl rfl (af rfl (aa (ak (ah qv (ae (.agg (TNet.c n0)) (af rfl ?_)))))))))
 obtain ⟨c12,hc12,hR⟩:=wx hR; try dsimp only at hR
 try dsimp only at hR
 refine av (r:=.bool c12) rfl rfl rfl (f64_ok n0 at1 _ hc12) rfl rfl (ae (.bool (!c12)) (af rfl ?_))
 rcases qq (c12) with hb1 | hb1
 ·rw [hb1]; first | replace hR:=kw hb1 hR | (try simp only [hb1,bb] at hR)
  refine ag rfl rfl (ag rfl rfl (ae (.bool true) (aa (ap rfl (ah qv (ae (.agg (TNet.c n0)) (ay (zj:=[(0,.box (TNet.c n0)),(1,.box (qj.c c2)),(2,.box (TNet.c n0))]) (zk:=3) rfl rfl rfl rfl rfl (af rfl (aa (aj ?_))))))))))
  obtain rfl:=Option.some.inj hR
  exact ai [] (.inr rfl) rfl rfl rfl rfl
 ·rw [hb1]; first | replace hR:=kz hb1 hR | (try simp only [hb1,bb] at hR)
  refine ae (.ptr 1 7) (ae (.bool c2.Leaked) (ae (.bool c2.Leaked) (aa ?_)))
  rcases qq (c2.Leaked) with hb2 | hb2
  ·rw [hb2]; first | replace hR:=kw hb2 hR | (try simp only [hb2,bb] at hR)
   refine aq rfl (aA (ak (aE qv (au (.ptr 0 0) (au (.ro 1 (n0.T.map qk.c)) (aG rfl ?_))))))
   obtain ⟨x902,hx902,hR⟩:=wx hR; try dsimp only at hR
   obtain ⟨hx9020,hx902j,hx902l,hx902⟩:=ky hx902
   refine bn (c:=qk.c) (x:=x902) rfl rfl rfl hx9020 hx902 (au (.agg (qk.c x902)) (au (.agg (qj.c c2)) ?_))
   obtain ⟨c26,hc26,hR⟩:=wx hR; try dsimp only at hR
   refine aL (r:=.tup [.agg [.ro 10 (c26.1.L.map qj.c)],.int .i64 c26.2]) rfl rfl rfl (f48_ok x902 c2 _ hc26) rfl rfl (aG rfl (au (.agg [.ro 10 (c26.1.L.map qj.c)]) (au (.int .i64 c26.2) (bj (v':=.ptr 3 0) (zj:=[(0,.box (TNet.c n0)),(1,.box (qj.c c2)),(2,.box [.nils,.nils,.nils,.nils,.bool false]),(3,.box [.nils])]) (zk:=4) rfl rfl rfl rfl rfl rfl rfl (aV (zj:=[(0,.box (TNet.c n0)),(1,.box (qj.c c2)),(2,.box [.nils,.nils,.nils,.nils,.bool false]),(3,.box (qk.c c26.1))]) (zk:=4) rfl rfl rfl rfl rfl (aG rfl (aH rfl (ak (ah qv (af rfl (ae (.bool (!decide (c26.2 = 0))) (aa ?_))))))))))))
   rcases qq (decide (c26.2 = 0)) with hb4 | hb4
   ·rw [hb4]; first | replace hR:=kw hb4 hR | (try simp only [hb4,bb] at hR)
    refine ap rfl (ah qv (ae (.agg (TNet.c n0)) (af rfl (ay (zj:=[(0,.box (TNet.c n0)),(1,.box (qj.c c2)),(2,.box (TNet.c n0)),(3,.box (qk.c c26.1))]) (zk:=4) rfl rfl rfl rfl rfl (af rfl (aa (aj ?_)))))))
    obtain rfl:=Option.some.inj hR
    exact ai [] (.inr rfl) rfl rfl rfl rfl
   ·rw [hb4]; first | replace hR:=kz hb4 hR | (try simp only [hb4,bb] at hR)
    refine aq rfl (aA (ah qv (ae (.agg (TNet.c n0)) (af rfl (ae (.agg (qk.c c26.1)) (ae (.agg (qj.c c2)) ?_))))))
    obtain ⟨c37,hc37,hR⟩:=wx hR; try dsimp only at hR
    try dsimp only at hR
    refine av (r:=.agg (TNet.c c37)) rfl rfl rfl (f69_ok n0 at1 c26.1 c2 _ hc37) rfl rfl (ay (zj:=[(0,.box (TNet.c n0)),(1,.box (qj.c c2)),(2,.box (TNet.c c37)),(3,.box (qk.c c26.1))]) (zk:=4) rfl rfl rfl rfl rfl (af rfl (aa (aj ?_))))
    obtain rfl:=Option.some.inj hR
    exact ai [] (.inr rfl) rfl rfl rfl rfl
  ·rw [hb2]; first | replace hR:=kz hb2 hR | (try simp only [hb2,bb] at hR)
   refine ap rfl (ah qv (ae (.agg (TNet.c n0)) (ay (zj:=[(0,.box (TNet.c n0)),(1,.box (qj.c c2)),(2,.box (TNet.c n0))]) (zk:=3) rfl rfl rfl rfl rfl (af rfl (aa (aj ?_))))))
   obtain rfl:=Option.some.inj hR
   exact ai [] (.inr rfl) rfl rfl rfl rfl
theorem f115_ok (s0:List qj) (gf1:FuncId) (gf1f gf1c:List PVal) (hf1:qj → Bool) (gf1k:PVal.closed.go gf1f = true ∧ PVal.closed.go gf1c = true) (gf1o : ∀ (y0:qj) (R:Bool),hf1 y0 = R → FnOk Tryz.prog gf1 (gf1f ++ [.agg (qj.c y0)] ++ gf1c) [] 0 (.bool R) [] 0) (R:Int) (hR:F115 s0 hf1 = R):FnOk Tryz.prog 115 [.ro 10 (s0.map qj.c),.fn gf1 gf1f gf1c] [] 0 (.int .i64 R) [] 0:=by
 refine FnOk.wk i115 rfl rfl ?_
 unfold F115 at hR
 change WK _ _ _ [ac115] _ ⟨[(0,.ro 10 (s0.map qj.c)),(1,.fn gf1 gf1f gf1c)],[],0⟩
 unfold ac115
 refine ah qv (af rfl (aa (ak (ah qv (af rfl (ar (v':=.int .i64 (s0.length:Int)) rfl rfl rfl rfl (ww _ _) (af rfl (aa ?_))))))))
 refine bq (t:=0) rfl (by simp) (fun ge1=>?_)
 rw [List.length_map] at ge1
 generalize gi1:F115l1 hf1 0 s0 = gh1 at hR
 refine aY (fun k s=>∃ (i8:Nat),i8 ≤ s0.length ∧ k = s0.length - i8 ∧ F115l1 hf1 i8 (s0.drop i8) = gh1 ∧ s = ⟨[(0,.ro 10 (s0.map qj.c)),(1,.fn gf1 gf1f gf1c),(7,.int .i64 (s0.length:Int)),(8,.int .i64 (i8:Int))],[],0⟩) s0.length (by refine ⟨_,?_,0,(by omega),rfl,gi1,rfl⟩; exact Conv.keep [] [] [0,1,7,8] rfl rfl (qx rfl rfl (qx rfl (aM gf1k) (qx rfl rfl (qx rfl rfl qy)))) rfl rfl) ?_
 rintro _ _ ⟨i8,gj1,rfl,gg1,rfl⟩ gb1 gd1 gk1 ga1 gc1 hQ_1
 refine ah qv (ae (.bool (decide ((i8:Int) < (s0.length:Int)))) (aa (ak ?_)))
 rcases qq (decide ((i8:Int) < (s0.length:Int))) with hb2 | hb2
 ·rw [hb2]
  rw [bc hb2,F115l1] at gg1
  refine aq rfl (aT ?_)
  refine aU (gc1 _ ?_)
  subst gg1
  try dsimp only [cond_true,cond_false] at hR
  refine ah qv (af rfl (aa (aj ?_)))
  subst hR
  exact ai [] (.inr rfl) rfl rfl rfl rfl
 ·rw [hb2]
  obtain ⟨x8,hx1,hd1,hlt1⟩:=aR hb2
  rw [hd1,F115l1] at gg1
  refine ap rfl (aA (ak ?_))
  refine aI (fun _ hK3=>?_)
  refine ah qv (af rfl (af rfl (aa (ah qv (af rfl (af rfl (af rfl (aZ (c:=qj.c) (x:=x8) rfl rfl rfl (Int.natCast_nonneg _) hx1 (ae (.agg (qj.c x8)) ?_)))))))))
  generalize hc16:hf1 x8 = c16 at gg1
  try dsimp only at gg1
  refine cd (r:=.bool c16) rfl rfl rfl (gf1o x8 _ hc16) (closed3 gf1k.1 rfl gf1k.2) rfl (aa ?_)
  rcases qq (c16) with hb4 | hb4
  ·rw [hb4]; try simp only [hb4,bb] at gg1
   refine aq rfl (aA ?_)
   refine aB (am (hK3 _ ?_))
   refine az qv (ar (v':=.int .i64 ((i8 + 1:Nat):Int)) rfl rfl rfl rfl (congrArg (PVal.int .i64) (aO hlt1 ge1)) (af rfl (aa ?_)))
   refine aB (am ?_)
   refine ga1 _ (s0.length - (i8 + 1)) _ (by omega) ?_ ⟨i8 + 1,(by omega),rfl,gg1,rfl⟩
   exact Conv.keep [] [] [0,1,7,8] rfl rfl (qx rfl rfl (qx rfl (aM gf1k) (qx rfl rfl (qx rfl rfl qy)))) rfl rfl
  ·rw [hb4]; try simp only [hb4,bb] at gg1
   refine ap rfl (ah qv (af rfl (af rfl (aa (aj (aS ?_))))))
   refine aS (hQ_1 _ _ ?_)
   subst gg1
   subst hR
   exact ai [] (.inr rfl) rfl rfl rfl rfl
end Go.Proofs.YtmfggjebbhdejaaGreat.Abs
