/- A part of the proof: W2. -/
import Derived.Test.YtmfggjebbhdejaaGreatG5
set_option linter.unusedVariables false
set_option linter.unusedSimpArgs false
set_option maxRecDepth 10000
set_option maxHeartbeats 4000000
namespace Go.Proofs.YtmfggjebbhdejaaGreat.Abs
open Go
theorem f84_ok (s0:List qj) (gdel1:FuncId) (gdel1f gdel1c:List PVal) (hdel1:qj → Bool) (gdel1k:PVal.closed.go gdel1f = true ∧ PVal.closed.go gdel1c = true) (gdel1o : ∀ (y0:qj) (R:Bool),hdel1 y0 = R → FnOk Tryz.prog gdel1 (gdel1f ++ [.agg (qj.c y0)] ++ gdel1c) [] 0 (.bool R) [] 0) (R:(List qj)) (hR:F84 s0 hdel1 = some R):FnOk Tryz.prog 84 [.own 0 10 0 s0.length,.fn gdel1 gdel1f gdel1c] [(0,.row 10 42 (s0.map qj.c))] 1 (.own 1 10 0 R.length) [(1,.row 10 42 (R.map qj.c))] 2:=by
 refine FnOk.wk i84 rfl rfl ?_
 unfold F84 at hR
 try dsimp only at hR
 change WK _ _ _ [ac84] _ ⟨[(0,.own 0 10 0 s0.length),(1,.fn gdel1 gdel1f gdel1c)],[(0,.row 10 42 (s0.map qj.c))],1⟩
 unfold ac84
 refine WK.mvT (t:=0) (zj:=[(1,.row 10 42 (s0.map qj.c))]) rfl rfl (by simp) rfl (ah qv (af rfl (aa (ah qv (af rfl (af rfl ?_))))))
 generalize hc10:F115 s0 hdel1 = c10 at hR
 try dsimp only at hR
 refine dy (r:=.int .i64 c10) [1] rfl rfl rfl (qz (aN rfl rfl) (qz (aM gdel1k) qw)) (f115_ok s0 gdel1 gdel1f gdel1c hdel1 gdel1k gdel1o _ hc10) rfl rfl (af rfl (aa (ak (ah qv (af rfl (ae (.bool (decide (c10 = (-1)))) (aa ?_)))))))
 rcases qq (decide (c10 = (-1))) with hb1 | hb1
 ·rw [hb1]; first | replace hR:=kw hb1 hR | (try simp only [hb1,bb] at hR)
  refine aq rfl (aA (ak (ah qv (af rfl (ae (.int .i64 (IntKind.i64.wrap (c10 + 1))) (af rfl (aa ?_)))))))
  generalize gi12:F84l1 hdel1 1000 c10 (IntKind.i64.wrap (c10 + 1)) s0 = gh12 at hR
  refine aY (fun k s=>∃ (i5:Int) (j6:Int) (s0x:List qj),F84l1 hdel1 k i5 j6 s0x = gh12 ∧ s = ⟨[(0,.own 1 10 0 s0x.length),(1,.fn gdel1 gdel1f gdel1c),(5,.int .i64 i5),(6,.int .i64 j6)],[(1,.row 10 42 (s0x.map qj.c))],2⟩) 1000 (by refine ⟨_,?_,c10,(IntKind.i64.wrap (c10 + 1)),s0,gi12,rfl⟩; exact bm [0,1] [] [0,1,5,6] rfl rfl (qx rfl rfl (qx rfl (aM gdel1k) (qx rfl rfl (qx rfl rfl qy)))) rfl rfl) ?_
  rintro k12 _ ⟨i5,j6,s0x,gg12,rfl⟩ gb12 gd12 gk12 ga12 gc12 gf12
  rcases k12 with _ | f12
  ·unfold F84l1 at gg12
   subst gg12
   first | replace hR:=wz hR | replace hR:=aJ hR
   cases hR
  unfold F84l1 at gg12; try dsimp only at gg12
  refine ak (ah qv (af rfl (af rfl (ae (.int .i64 (s0x.length:Int)) (ae (.bool (decide (j6 < (s0x.length:Int)))) (aa ?_))))))
  rcases qq (decide (j6 < (s0x.length:Int))) with hb13 | hb13
  ·rw [hb13]; try simp only [hb13,bb] at gg12
   refine aq rfl (aT ?_)
   refine aU (gc12 _ ?_)
   subst gg12
   replace hR:=be hR; try dsimp only at hR
   refine ah qv (af rfl (af rfl ?_))
   obtain ⟨hg14,hg14_,hR⟩:=gd hR; try dsimp only at hR
   obtain ⟨hg15,hg15_,hR⟩:=gd hR; try dsimp only at hR
   refine ar (v':=.own 1 10 i5.toNat (s0x.length - i5.toNat)) rfl rfl rfl (core_sliceRlo (c:=qj.c) (L:=s0x) i5.toNat rfl (by omega) (by omega) rfl) rfl ?_
   obtain ⟨hg16,hg16_,hR⟩:=gd hR; try dsimp only at hR
   refine ay (zj:=[(1,.row 10 42 ((s0x.take i5.toNat ++ List.replicate (s0x.length - i5.toNat) ((⟨(⟨0,0⟩ : zy),0,0,0,0,0,false,0,([]:List THop)⟩ : qj):qj)).map qj.c))]) (zk:=2) rfl rfl (core_clearT (c:=qj.c) (L:=s0x) (x0:=(⟨(⟨0,0⟩ : zy),0,0,0,0,0,false,0,([]:List THop)⟩ : qj)) (lo:=i5.toNat) rfl (by omega) (by omega) rfl rfl) rfl rfl (aa (ah qv (af rfl (af rfl ?_))))
   obtain ⟨hg17,hg17_,hR⟩:=gd hR; try dsimp only at hR
   refine ar (v':=.own 1 10 0 ((s0x.take i5.toNat ++ List.replicate (s0x.length - i5.toNat) ((⟨(⟨0,0⟩ : zy),0,0,0,0,0,false,0,([]:List THop)⟩ : qj):qj)).take i5.toNat).length) rfl rfl rfl (g8 (c:=qj.c) (L:=(s0x.take i5.toNat ++ List.replicate (s0x.length - i5.toNat) ((⟨(⟨0,0⟩ : zy),0,0,0,0,0,false,0,([]:List THop)⟩ : qj):qj))) rfl (by omega) (by omega) (by ((try simp only [decide_eq_true_eq,List.length_set,List.length_append,List.length_take,List.length_replicate] at *) <;> omega))) rfl (af rfl (aa (WK.truncT (c:=qj.c) (L:=(s0x.take i5.toNat ++ List.replicate (s0x.length - i5.toNat) ((⟨(⟨0,0⟩ : zy),0,0,0,0,0,false,0,([]:List THop)⟩ : qj):qj))) (id:=1) (zj:=[(1,.row 10 42 (((s0x.take i5.toNat ++ List.replicate (s0x.length - i5.toNat) ((⟨(⟨0,0⟩ : zy),0,0,0,0,0,false,0,([]:List THop)⟩ : qj):qj)).take i5.toNat).map qj.c))]) i5.toNat rfl (by simp) rfl (aj ?_))))
   obtain rfl:=Option.some.inj hR
   exact RetQ.ret [0,1] [] (.inr rfl) rfl rfl rfl rfl rfl .refl rfl
  ·rw [hb13]; try simp only [hb13,bb] at gg12
   refine ap rfl (aA (ak ?_))
   refine aI (fun _ hK18=>?_)
   refine ah qv (af rfl (af rfl ?_))
   rcases wy gg12 with ⟨_,gg12⟩ | ⟨x918,hx918,gg12⟩
   ·subst gg12
    first | replace hR:=wz hR | replace hR:=aJ hR
    cases hR
   try dsimp only at gg12
   obtain ⟨hx9180,hx918j,hx918l,hx918⟩:=ky hx918
   refine ar (v':=.eptr 1 10 j6.toNat 0) rfl rfl rfl (aK (c:=qj.c) (L:=s0x) (j:=j6.toNat) rfl hx918j hx918l (by exact Nat.le_refl _)) rfl (ar (v':=.agg (qj.c x918)) rfl rfl rfl (bf (c:=qj.c) (L:=s0x) (x:=x918) rfl hx918 rfl) rfl (aw (v':=.ptr 2 0) (zj:=[(1,.row 10 42 (s0x.map qj.c)),(2,.box [.int .u32 0,.int .i64 0,.int .i64 0,.int .i64 0,.int .i64 0,.int .i64 0,.int .u32 0,.bool false,.int .i64 0,.nils])]) (zk:=3) rfl rfl rfl rfl rfl rfl rfl (ay (zj:=[(1,.row 10 42 (s0x.map qj.c)),(2,.box (qj.c x918))]) (zk:=3) rfl rfl rfl rfl rfl (aa (ah qv (af rfl (ae (.agg (qj.c x918)) ?_)))))))
   generalize hc28:hdel1 x918 = c28 at gg12
   try dsimp only at gg12
   refine cd (r:=.bool c28) rfl rfl rfl (gdel1o x918 _ hc28) (closed3 gdel1k.1 rfl gdel1k.2) rfl (ae (.bool (!c28)) (aa ?_))
   rcases qq (c28) with hb20 | hb20
   ·rw [hb20]; try simp only [hb20,bb] at gg12
    refine ap rfl (ah qv (af rfl (af rfl (ae (.agg (qj.c x918)) ?_))))
    rcases wy gg12 with ⟨_,gg12⟩ | ⟨x920,hx920,gg12⟩
    ·subst gg12
     first | replace hR:=wz hR | replace hR:=aJ hR
     cases hR
    try dsimp only at gg12
    obtain ⟨hx9200,hx920j,hx920l,hx920⟩:=ky hx920
    refine ar (v':=.eptr 1 10 i5.toNat 0) rfl rfl rfl (aK (c:=qj.c) (L:=s0x) (j:=i5.toNat) rfl hx920j hx920l (by exact Nat.le_refl _)) rfl (ay (zj:=[(1,.row 10 42 ((s0x.set i5.toNat x918).map qj.c)),(2,.box (qj.c x918))]) (zk:=3) rfl rfl (bw (c:=qj.c) (L:=s0x) (x:=x920) (x':=x918) rfl hx920 rfl rfl rfl rfl rfl) rfl rfl (aa (az qv (af rfl (ae (.int .i64 (IntKind.i64.wrap (i5 + 1))) (af rfl (aa ?_)))))))
    refine aB (am (hK18 _ ?_))
    refine az qv (af rfl (ae (.int .i64 (IntKind.i64.wrap (j6 + 1))) (af rfl (aa ?_))))
    refine aB (am ?_)
    refine ga12 _ f12 _ (Nat.lt_succ_self _) ?_ ⟨(IntKind.i64.wrap (i5 + 1)),(IntKind.i64.wrap (j6 + 1)),(s0x.set i5.toNat x918),gg12,rfl⟩
    exact bm [0,1] [] [0,1,5,6] rfl rfl (qx rfl (br rfl (by simp)) (qx rfl (aM gdel1k) (qx rfl rfl (qx rfl rfl qy)))) rfl rfl
   ·rw [hb20]; try simp only [hb20,bb] at gg12
    refine aq rfl (aA ?_)
    refine aB (am (hK18 _ ?_))
    refine az qv (af rfl (ae (.int .i64 (IntKind.i64.wrap (j6 + 1))) (af rfl (aa ?_))))
    refine aB (am ?_)
    refine ga12 _ f12 _ (Nat.lt_succ_self _) ?_ ⟨i5,(IntKind.i64.wrap (j6 + 1)),s0x,gg12,rfl⟩
    exact bm [0,1] [] [0,1,5,6] rfl rfl (qx rfl rfl (qx rfl (aM gdel1k) (qx rfl rfl (qx rfl rfl qy)))) rfl rfl
 ·rw [hb1]; first | replace hR:=kz hb1 hR | (try simp only [hb1,bb] at hR)
  refine ap rfl (ah qv (af rfl (af rfl (aa (aj ?_)))))
  obtain rfl:=Option.some.inj hR
  exact RetQ.ret [0,1] [] (.inr rfl) rfl rfl rfl rfl rfl .refl rfl
theorem f42_ok (t0:qk) (gholds1:FuncId) (gholds1f gholds1c:List PVal) (hholds1:qj → Bool) (gholds1k:PVal.closed.go gholds1f = true ∧ PVal.closed.go gholds1c = true) (gholds1o : ∀ (y0:qj) (R:Bool),hholds1 y0 = R → FnOk Tryz.prog gholds1 (gholds1f ++ [.agg (qj.c y0)] ++ gholds1c) [] 0 (.bool R) [] 0) (R:qk) (hR:F42 t0 hholds1 = some R):FnOk Tryz.prog 42 [.agg (qk.c t0),.fn gholds1 gholds1f gholds1c] [] 0 (.agg (qk.c R)) [] 0:=by
 refine FnOk.wk i42 rfl rfl ?_
 unfold F42 at hR
 try dsimp only at hR
 change WK _ _ _ [ac42] _ ⟨[(0,.agg (qk.c t0)),(1,.fn gholds1 gholds1f gholds1c)],[],0⟩
 unfold ac42
 refine ah qv (aw (v':=.ptr 0 0) (zj:=[(0,.box (qk.c t0))]) (zk:=1) rfl rfl rfl rfl rfl rfl rfl (aw (v':=.ptr 1 0) (zj:=[(0,.box (qk.c t0)),(1,.box [.nils])]) (zk:=2) rfl rfl rfl rfl rfl rfl rfl (aa (ah qv (ae (.ptr 0 0) (ae (.ro 10 (t0.L.map qj.c)) ?_))))))
 obtain ⟨hg1,hg1_,hR⟩:=gd hR; try dsimp only at hR
 refine bd (r':=.own 2 10 0 t0.L.length) (zj:=[(0,.box (qk.c t0)),(1,.box [.nils]),(2,.row 10 42 (t0.L.map qj.c))]) (zk:=3) [] [] rfl rfl rfl rfl rfl rfl (cS (c:=qj.c) qv i85 t0.L (by decide) (by omega) (by omega)) (.inl rfl) rfl rfl rfl (af rfl ?_)
 obtain ⟨c9,hc9,hR⟩:=wx hR; try dsimp only at hR
 try dsimp only at hR
 refine bd (r':=.own 3 10 0 c9.length) (zj:=[(0,.box (qk.c t0)),(1,.box [.nils]),(3,.row 10 42 (c9.map qj.c))]) (zk:=4) [2] [] rfl rfl rfl (qz rfl (qz (aM gholds1k) qw)) rfl rfl (f84_ok t0.L gholds1 gholds1f gholds1c hholds1 gholds1k gholds1o _ hc9) (.inl rfl) rfl rfl rfl (ae (.agg [.own 3 10 0 c9.length]) (ay (zj:=[(0,.box (qk.c t0)),(1,.box [.own 3 10 0 c9.length]),(3,.row 10 42 (c9.map qj.c))]) (zk:=4) rfl rfl rfl rfl rfl (aa (aj ?_))))
 obtain rfl:=Option.some.inj hR
 exact ai [3] (.inr rfl) rfl rfl (qz (bG (qz (aN rfl rfl) qw)) qw) rfl
theorem f176_ok (x0:zv) (R:Int × Int) (hR:F176 x0 = R):FnOk Tryz.prog 176 [.agg (zv.c x0)] [] 0 (.tup [.int .i64 R.1,.int .i64 R.2]) [] 0:=by
 refine FnOk.wk i176 rfl rfl ?_
 unfold F176 at hR
 change WK _ _ _ [ac176] _ ⟨[(0,.agg (zv.c x0))],[],0⟩
 unfold ac176
 refine ah qv (aw (v':=.ptr 0 0) (zj:=[(0,.box (zv.c x0))]) (zk:=1) rfl rfl rfl rfl rfl rfl rfl (af rfl (af rfl (aa (ak ?_)))))
 refine aI (fun _ hK1=>?_)
 refine ah qv (ae (.ptr 0 4) (ae (.int .i64 x0.Ge) (ae (.bool (decide (x0.Ge = 0))) (af rfl ?_))))
 rcases qq (decide (x0.Ge = 0)) with hb2 | hb2
 ·rw [hb2]; try simp only [hb2,bb] at hR
  refine ag rfl rfl (ag rfl rfl (ag rfl rfl (ae (.bool false) (af rfl (aa (aq rfl (ah qv (ae (.ptr 0 4) (ae (.int .i64 x0.Ge) (ae (.bool (decide (x0.Ge = 0))) (af rfl (aa ?_))))))))))))
  rw [hb2]
  refine aq rfl (ah qv (ae (.ptr 0 5) (ae (.int .i64 x0.Le) (ae (.bool (decide (x0.Le = 0))) (af rfl (aa ?_))))))
  rcases qq (decide (x0.Le = 0)) with hb3 | hb3
  ·rw [hb3]; try simp only [hb3,bb] at hR
   refine aq rfl (aA ?_)
   refine aB (am (hK1 _ ?_))
   refine ak (aE qv (au (.ptr 0 4) (au (.int .i64 x0.Ge) (au (.ptr 0 5) (au (.int .i64 x0.Le) (aG rfl (aG rfl (aH rfl (aj ?_)))))))))
   subst hR
   exact ai [] (.inr rfl) rfl rfl rfl rfl
  ·rw [hb3]; try simp only [hb3,bb] at hR
   refine ap rfl (ah qv (ae (.ptr 0 4) (ae (.int .i64 x0.Ge) (af rfl (af rfl (aa (aj (aS ?_))))))))
   subst hR
   exact ai [] (.inr rfl) rfl rfl rfl rfl
 ·rw [hb2]; try simp only [hb2,bb] at hR
  refine ae (.ptr 0 5) (ae (.int .i64 x0.Le) (ae (.bool (decide (x0.Le = 0))) (ae (.bool (decide (x0.Le = 0))) (af rfl (aa ?_)))))
  rcases qq (decide (x0.Le = 0)) with hb4 | hb4
  ·rw [hb4]; try simp only [hb4,bb] at hR
   refine aq rfl (ah qv (ae (.ptr 0 4) (ae (.int .i64 x0.Ge) (ae (.bool (decide (x0.Ge = 0))) (af rfl (aa ?_))))))
   rw [hb2]
   refine ap rfl (ak (aE qv (au (.ptr 0 2) (au (.ptr 0 3) (au (.int .i64 x0.P.N) (au (.ptr 0 5) (au (.int .i64 x0.Le) (aG rfl (aG rfl (aH rfl (aj (aS ?_))))))))))))
   subst hR
   exact ai [] (.inr rfl) rfl rfl rfl rfl
  ·rw [hb4]; try simp only [hb4,bb] at hR
   refine ap rfl (ak (aE qv (au (.ptr 0 2) (au (.ptr 0 3) (au (.int .i64 x0.P.N) (au (.ptr 0 2) (au (.ptr 0 3) (au (.int .i64 x0.P.N) (aG rfl (aG rfl (aH rfl (aj (aS ?_)))))))))))))
   subst hR
   exact ai [] (.inr rfl) rfl rfl rfl rfl
theorem f167_ok (p0:zy) (a1:Int) (R:Bool) (hR:F167 p0 a1 = R):FnOk Tryz.prog 167 [.agg (zy.c p0),.int .u32 a1] [] 0 (.bool R) [] 0:=by
 refine FnOk.wk i167 rfl rfl ?_
 unfold F167 at hR
 change WK _ _ _ [ac167] _ ⟨[(0,.agg (zy.c p0)),(1,.int .u32 a1)],[],0⟩
 unfold ac167
 refine ah qv (aw (v':=.ptr 0 0) (zj:=[(0,.box (zy.c p0))]) (zk:=1) rfl rfl rfl rfl rfl rfl rfl (af rfl (aa (ak (aE qv (au (.agg (zy.c p0)) ?_))))))
 generalize hc6:F124 p0 = c6 at hR
 try dsimp only at hR
 refine aL (r:=.bool c6) rfl rfl rfl (f124_ok p0 _ hc6) rfl rfl (aG rfl ?_)
 rcases qq (c6) with hb1 | hb1
 ·rw [hb1]; try simp only [hb1,bb] at hR
  iterate 8 refine bE rfl rfl ?_
  refine au (.bool false) (aG rfl (aH rfl (aj ?_)))
  subst hR
  exact ai [] (.inr rfl) rfl rfl rfl rfl
 ·rw [hb1]; try simp only [hb1,bb] at hR
  refine aG rfl (au (.ptr 0 1) (au (.int .i64 p0.N) ?_))
  generalize hc11:F152 p0.N = c11 at hR
  try dsimp only at hR
  refine aL (r:=.int .u32 c11) rfl rfl rfl (f152_ok p0.N _ hc11) rfl rfl (au (.int .u32 (gy .u32 a1 c11)) (au (.ptr 0 0) (au (.int .u32 p0.A) (au (.bool (decide (gy .u32 a1 c11 = p0.A))) (au (.bool (decide (gy .u32 a1 c11 = p0.A))) (aG rfl (aH rfl (aj ?_))))))))
  subst hR
  exact ai [] (.inr rfl) rfl rfl rfl rfl
theorem f177_ok (p0:zy) (q1:zy) (R:Bool) (hR:F177 p0 q1 = R):FnOk Tryz.prog 177 [.agg (zy.c p0),.agg (zy.c q1)] [] 0 (.bool R) [] 0:=by
 refine FnOk.wk i177 rfl rfl ?_
 unfold F177 at hR
 change WK _ _ _ [ac177] _ ⟨[(0,.agg (zy.c p0)),(1,.agg (zy.c q1))],[],0⟩
 unfold ac177
 refine ah qv (aw (v':=.ptr 0 0) (zj:=[(0,.box (zy.c p0))]) (zk:=1) rfl rfl rfl rfl rfl rfl rfl (aw (v':=.ptr 1 0) (zj:=[(0,.box (zy.c p0)),(1,.box (zy.c q1))]) (zk:=2) rfl rfl rfl rfl rfl rfl rfl (af rfl (aa (ah qv (ae (.agg (zy.c q1)) ?_))))))
 generalize hc6:F124 q1 = c6 at hR
 try dsimp only at hR
 refine av (r:=.bool c6) rfl rfl rfl (f124_ok q1 _ hc6) rfl rfl (af rfl ?_)
 rcases qq (c6) with hb1 | hb1
 ·rw [hb1]; try simp only [hb1,bb] at hR
  iterate 5 refine ag rfl rfl ?_
  refine ae (.bool false) (af rfl ?_)
  iterate 4 refine ag rfl rfl ?_
  refine ae (.bool false) (af rfl (aa (aj ?_)))
  subst hR
  exact ai [] (.inr rfl) rfl rfl rfl rfl
 ·rw [hb1]; try simp only [hb1,bb] at hR
  refine ae (.ptr 0 1) (ae (.int .i64 p0.N) (ae (.ptr 1 1) (ae (.int .i64 q1.N) (ae (.bool (decide (p0.N ≤ q1.N))) (ae (.bool (decide (p0.N ≤ q1.N))) (af rfl ?_))))))
  rcases qq (decide (p0.N ≤ q1.N)) with hb2 | hb2
  ·rw [hb2]; try simp only [hb2,bb] at hR
   iterate 4 refine ag rfl rfl ?_
   refine ae (.bool false) (af rfl (aa (aj ?_)))
   subst hR
   exact ai [] (.inr rfl) rfl rfl rfl rfl
  ·rw [hb2]; try simp only [hb2,bb] at hR
   refine ae (.agg (zy.c p0)) (ae (.ptr 1 0) (ae (.int .u32 q1.A) ?_))
   generalize hc18:F167 p0 q1.A = c18 at hR
   try dsimp only at hR
   refine av (r:=.bool c18) rfl rfl rfl (f167_ok p0 q1.A _ hc18) rfl rfl (ae (.bool c18) (af rfl (aa (aj ?_))))
   subst hR
   exact ai [] (.inr rfl) rfl rfl rfl rfl
theorem f170_ok (x0:zv) (q1:zy) (R:Bool) (hR:F170 x0 q1 = R):FnOk Tryz.prog 170 [.agg (zv.c x0),.agg (zy.c q1)] [] 0 (.bool R) [] 0:=by
 refine FnOk.wk i170 rfl rfl ?_
 unfold F170 at hR
 change WK _ _ _ [ac170] _ ⟨[(0,.agg (zv.c x0)),(1,.agg (zy.c q1))],[],0⟩
 unfold ac170
 refine ah qv (aw (v':=.ptr 0 0) (zj:=[(0,.box (zv.c x0))]) (zk:=1) rfl rfl rfl rfl rfl rfl rfl (aw (v':=.ptr 1 0) (zj:=[(0,.box (zv.c x0)),(1,.box (zy.c q1))]) (zk:=2) rfl rfl rfl rfl rfl rfl rfl (af rfl (aa (ah qv (ae (.agg (zv.c x0)) ?_))))))
 generalize hc9:F176 x0 = c9 at hR
 obtain ⟨c9a,c9b⟩:=c9; try dsimp only at hR
 refine av (r:=.tup [.int .i64 c9a,.int .i64 c9b]) rfl rfl rfl (f176_ok x0 _ hc9) rfl rfl (af rfl (ae (.int .i64 c9a) (ae (.int .i64 c9b) (af rfl (af rfl (aa (ah qv (ae (.agg (zv.c x0)) ?_))))))))
 generalize hc13:F161 x0 = c13 at hR
 try dsimp only at hR
 refine av (r:=.bool c13) rfl rfl rfl (f161_ok x0 _ hc13) rfl rfl (af rfl ?_)
 rcases qq (c13) with hb1 | hb1
 ·rw [hb1]; try simp only [hb1,bb] at hR
  iterate 4 refine ag rfl rfl ?_
  refine ae (.bool false) (af rfl ?_)
  iterate 4 refine ag rfl rfl ?_
  refine ae (.bool false) (af rfl ?_)
  iterate 4 refine ag rfl rfl ?_
  refine ae (.bool false) (af rfl (aa (aj ?_)))
  subst hR
  exact ai [] (.inr rfl) rfl rfl rfl rfl
 ·rw [hb1]; try simp only [hb1,bb] at hR
  refine ae (.ptr 0 2) (ae (.agg (zy.c x0.P)) (ae (.agg (zy.c q1)) ?_))
  generalize hc18:F177 x0.P q1 = c18 at hR
  try dsimp only at hR
  refine av (r:=.bool c18) rfl rfl rfl (f177_ok x0.P q1 _ hc18) rfl rfl (ae (.bool c18) (af rfl ?_))
  rcases qq (c18) with hb2 | hb2
  ·rw [hb2]; try simp only [hb2,bb] at hR
   iterate 4 refine ag rfl rfl ?_
   refine ae (.bool false) (af rfl ?_)
   iterate 4 refine ag rfl rfl ?_
   refine ae (.bool false) (af rfl (aa (aj ?_)))
   subst hR
   exact ai [] (.inr rfl) rfl rfl rfl rfl
  ·rw [hb2]; try simp only [hb2,bb] at hR
   refine ae (.ptr 1 1) (ae (.int .i64 q1.N) (af rfl (ae (.bool (decide (c9a ≤ q1.N))) (ae (.bool (decide (c9a ≤ q1.N))) (af rfl ?_)))))
   rcases qq (decide (c9a ≤ q1.N)) with hb3 | hb3
   ·rw [hb3]; try simp only [hb3,bb] at hR
    iterate 4 refine ag rfl rfl ?_
    refine ae (.bool false) (af rfl (aa (aj ?_)))
    subst hR
    exact ai [] (.inr rfl) rfl rfl rfl rfl
   ·rw [hb3]; try simp only [hb3,bb] at hR
    refine ae (.ptr 1 1) (ae (.int .i64 q1.N) (af rfl (ae (.bool (decide (q1.N ≤ c9b))) (ae (.bool (decide (q1.N ≤ c9b))) (af rfl (aa (aj ?_)))))))
    subst hR
    exact ai [] (.inr rfl) rfl rfl rfl rfl
theorem f169_ok (x0:zv) (a1:zy) (R:Bool) (hR:F169 x0 a1 = R):FnOk Tryz.prog 169 [.agg (zv.c x0),.rptr (zy.c a1)] [] 0 (.bool R) [] 0:=by
 refine FnOk.wk i169 rfl rfl ?_
 unfold F169 at hR
 change WK _ _ _ [ac169] _ ⟨[(0,.agg (zv.c x0)),(1,.rptr (zy.c a1))],[],0⟩
 unfold ac169
 refine ah qv (aw (v':=.ptr 0 0) (zj:=[(0,.box (zv.c x0))]) (zk:=1) rfl rfl rfl rfl rfl rfl rfl (af rfl (aa (ah qv (ae (.agg (zv.c x0)) (ae (.agg (zy.c a1)) ?_))))))
 generalize hc6:F170 x0 a1 = c6 at hR
 try dsimp only at hR
 refine av (r:=.bool c6) rfl rfl rfl (f170_ok x0 a1 _ hc6) rfl rfl (af rfl (aa (aj ?_)))
 subst hR
 exact ai [] (.inr rfl) rfl rfl rfl rfl
theorem f149_ok (l0:List zv) (q1:zy) (R:Bool × Int) (hR:F149 l0 q1 = R):FnOk Tryz.prog 149 [.ro 6 (l0.map zv.c),.agg (zy.c q1)] [] 0 (.tup [.bool R.1,.int .i64 R.2]) [] 0:=by
 refine FnOk.wk i149 rfl rfl ?_
 unfold F149 at hR
 change WK _ _ _ [ac149] _ ⟨[(0,.ro 6 (l0.map zv.c)),(1,.agg (zy.c q1))],[],0⟩
 unfold ac149
 refine ah qv (aw (v':=.ptr 0 0) (zj:=[(0,.box (zy.c q1))]) (zk:=1) rfl rfl rfl rfl rfl rfl rfl (af rfl (af rfl (aa (ah qv (af rfl (ae (.fn 169 [] [.ptr 0 0]) ?_)))))))
 generalize hc9:F168 l0 (fun y0=>F169 y0 q1) = c9 at hR
 try dsimp only at hR
 refine dy (r:=.int .i64 c9) [0] rfl rfl rfl rfl (f168_ok l0 169 [] [.rptr (zy.c q1)] (fun y0=>F169 y0 q1) ⟨rfl,rfl⟩ (fun y0 _ hr=>f169_ok y0 q1 _ hr) _ hc9) rfl rfl (af rfl (aa (ak (ah qv (af rfl (ae (.bool (decide (c9 < 0))) (aa ?_)))))))
 rcases qq (decide (c9 < 0)) with hb1 | hb1
 ·rw [hb1]; try simp only [hb1,bb] at hR
  refine aq rfl (aA (ak (aE qv (aG rfl (aG rfl (bn (c:=zv.c) (x:=(l0.getD c9.toNat default)) rfl rfl rfl (by ((try simp only [decide_eq_true_eq,decide_eq_false_iff_not,Bool.not_eq_true,Bool.not_eq_false] at *); first | omega | (rw [aW (by omega) (by omega)]; omega) | (unfold min_ max_; (repeat' split) <;> first | omega | (rw [aW (by omega) (by omega)]; omega)))) (cC (by exact F168lt (by assumption) (by assumption))) (au (.rptr [.bool ((l0.getD c9.toNat default).Permit),.int .u32 (((l0.getD c9.toNat default).P).A),.int .i64 (((l0.getD c9.toNat default).P).N),.int .i64 ((l0.getD c9.toNat default).Ge),.int .i64 ((l0.getD c9.toNat default).Le)]) (au (.bool ((l0.getD c9.toNat default).Permit)) (aG rfl (aG rfl (bn (c:=zv.c) (x:=(l0.getD c9.toNat default)) rfl rfl rfl (by ((try simp only [decide_eq_true_eq,decide_eq_false_iff_not,Bool.not_eq_true,Bool.not_eq_false] at *); first | omega | (rw [aW (by omega) (by omega)]; omega) | (unfold min_ max_; (repeat' split) <;> first | omega | (rw [aW (by omega) (by omega)]; omega)))) (cC (by exact F168lt (by assumption) (by assumption))) (au (.rptr [.int .i64 ((l0.getD c9.toNat default).Seq),.bool ((l0.getD c9.toNat default).Permit),.int .u32 (((l0.getD c9.toNat default).P).A),.int .i64 (((l0.getD c9.toNat default).P).N),.int .i64 ((l0.getD c9.toNat default).Ge),.int .i64 ((l0.getD c9.toNat default).Le)]) (au (.int .i64 ((l0.getD c9.toNat default).Seq)) ?_)))))))))))))
  refine aG rfl (aG rfl (aH rfl (aj ?_)))
  subst hR
  exact ai [] (.inr rfl) rfl rfl rfl rfl
 ·rw [hb1]; try simp only [hb1,bb] at hR
  refine ap rfl (ah qv (af rfl (af rfl (aa (aj ?_)))))
  subst hR
  exact ai [] (.inr rfl) rfl rfl rfl rfl
theorem f171_ok (s0:List Int) (v1:Int) (R:Int) (hR:F171 s0 v1 = R):FnOk Tryz.prog 171 [.ro 1 (s0.map bI),.int .u32 v1] [] 0 (.int .i64 R) [] 0:=by
 refine FnOk.wk i171 rfl rfl ?_
 unfold F171 at hR
 change WK _ _ _ [ac171] _ ⟨[(0,.ro 1 (s0.map bI)),(1,.int .u32 v1)],[],0⟩
 unfold ac171
 refine ah qv (af rfl (aa (ak (ah qv (af rfl (ar (v':=.int .i64 (s0.length:Int)) rfl rfl rfl rfl (ww _ _) (af rfl (aa ?_))))))))
 refine bq (t:=0) rfl (by simp) (fun ge1=>?_)
 rw [List.length_map] at ge1
 generalize gi1:F171l1 v1 0 s0 = gh1 at hR
 refine aY (fun k s=>∃ (i8:Nat),i8 ≤ s0.length ∧ k = s0.length - i8 ∧ F171l1 v1 i8 (s0.drop i8) = gh1 ∧ s = ⟨[(0,.ro 1 (s0.map bI)),(1,.int .u32 v1),(7,.int .i64 (s0.length:Int)),(8,.int .i64 (i8:Int))],[],0⟩) s0.length (by refine ⟨_,?_,0,(by omega),rfl,gi1,rfl⟩; exact Conv.keep [] [] [0,1,7,8] rfl rfl (qx rfl rfl (qx rfl rfl (qx rfl rfl (qx rfl rfl qy)))) rfl rfl) ?_
 rintro _ _ ⟨i8,gj1,rfl,gg1,rfl⟩ gb1 gd1 gk1 ga1 gc1 hQ_1
 refine ah qv (ae (.bool (decide ((i8:Int) < (s0.length:Int)))) (aa (ak ?_)))
 rcases qq (decide ((i8:Int) < (s0.length:Int))) with hb2 | hb2
 ·rw [hb2]
  rw [bc hb2,F171l1] at gg1
  refine aq rfl (aT ?_)
  refine aU (gc1 _ ?_)
  subst gg1
  try dsimp only [cond_true,cond_false] at hR
  refine ah qv (af rfl (aa (aj ?_)))
  subst hR
  exact ai [] (.inr rfl) rfl rfl rfl rfl
 ·rw [hb2]
  obtain ⟨x8,hx1,hd1,hlt1⟩:=aR hb2
  rw [hd1,F171l1] at gg1
  refine ap rfl (aA (ak ?_))
  refine aI (fun _ hK3=>?_)
  refine ah qv (af rfl (af rfl (aa (ah qv (af rfl (af rfl (af rfl (aZ (c:=bI) (x:=x8) rfl rfl rfl (Int.natCast_nonneg _) hx1 (ae (.int .u32 x8) (ae (.bool (decide (v1 = x8))) (aa ?_)))))))))))
  rcases qq (decide (v1 = x8)) with hb4 | hb4
  ·rw [hb4]; try simp only [hb4,bb] at gg1
   refine aq rfl (aA ?_)
   refine aB (am (hK3 _ ?_))
   refine az qv (ar (v':=.int .i64 ((i8 + 1:Nat):Int)) rfl rfl rfl rfl (congrArg (PVal.int .i64) (aO hlt1 ge1)) (af rfl (aa ?_)))
   refine aB (am ?_)
   refine ga1 _ (s0.length - (i8 + 1)) _ (by omega) ?_ ⟨i8 + 1,(by omega),rfl,gg1,rfl⟩
   exact Conv.keep [] [] [0,1,7,8] rfl rfl (qx rfl rfl (qx rfl rfl (qx rfl rfl (qx rfl rfl qy)))) rfl rfl
  ·rw [hb4]; try simp only [hb4,bb] at gg1
   refine ap rfl (ah qv (af rfl (af rfl (aa (aj (aS ?_))))))
   refine aS (hQ_1 _ _ ?_)
   subst gg1
   subst hR
   exact ai [] (.inr rfl) rfl rfl rfl rfl
theorem f150_ok (s0:List Int) (v1:Int) (R:Bool) (hR:F150 s0 v1 = R):FnOk Tryz.prog 150 [.ro 1 (s0.map bI),.int .u32 v1] [] 0 (.bool R) [] 0:=by
 refine FnOk.wk i150 rfl rfl ?_
 unfold F150 at hR
 change WK _ _ _ [ac150] _ ⟨[(0,.ro 1 (s0.map bI)),(1,.int .u32 v1)],[],0⟩
 unfold ac150
 refine ah qv (af rfl (aa (ah qv (af rfl (af rfl ?_)))))
 generalize hc7:F171 s0 v1 = c7 at hR
 try dsimp only at hR
 refine av (r:=.int .i64 c7) rfl rfl rfl (f171_ok s0 v1 _ hc7) rfl rfl (ae (.bool (decide (0 ≤ c7))) (af rfl (aa (aj ?_))))
 subst hR
 exact ai [] (.inr rfl) rfl rfl rfl rfl
theorem f121_ok (x0:zx) (t1:zq) (R:Bool) (hR:F121 x0 t1 = R):FnOk Tryz.prog 121 [.agg (zx.c x0),.agg (zq.c t1)] [] 0 (.bool R) [] 0:=by
 refine FnOk.wk i121 rfl rfl ?_
 unfold F121 at hR
 change WK _ _ _ [ac121] _ ⟨[(0,.agg (zx.c x0)),(1,.agg (zq.c t1))],[],0⟩
 unfold ac121
 refine ah qv (aw (v':=.ptr 0 0) (zj:=[(0,.box (zx.c x0))]) (zk:=1) rfl rfl rfl rfl rfl rfl rfl (aw (v':=.ptr 1 0) (zj:=[(0,.box (zx.c x0)),(1,.box (zq.c t1))]) (zk:=2) rfl rfl rfl rfl rfl rfl rfl (af rfl (aa (ah qv (af rfl (aa (ak (ah qv (ae (.ptr 0 2) (ae (.ro 6 (x0.Listf.map zv.c)) (ar (v':=.int .i64 (x0.Listf.length:Int)) rfl rfl rfl rfl (ww _ _) (ae (.bool (decide (0 < (x0.Listf.length:Int)))) ?_)))))))))))))
 refine aa ?_
 rcases qq (decide (0 < (x0.Listf.length:Int))) with hb1 | hb1
 ·rw [hb1]; try simp only [hb1,bb] at hR
  refine aq rfl (aA (ah qv (ae (.ptr 0 3) (ae (.int .i64 x0.MKind) (ae (.bool (decide (x0.MKind = (-1)))) (af rfl ?_))))))
  rcases qq (decide (x0.MKind = (-1))) with hb2 | hb2
  ·rw [hb2]; try simp only [hb2,bb] at hR
   refine ae (.ptr 0 3) (ae (.int .i64 x0.MKind) (ae (.ptr 1 2) (ae (.int .i64 t1.Kind) (ae (.bool (decide (x0.MKind = t1.Kind))) (ae (.bool (decide (x0.MKind = t1.Kind))) (af rfl (aa (ah qv (ae (.ptr 0 6) (ae (.ro 1 (x0.MTags.map bI)) (ar (v':=.int .i64 (x0.MTags.length:Int)) rfl rfl rfl rfl (ww _ _) (ae (.bool (decide ((x0.MTags.length:Int) = 0))) (af rfl ?_)))))))))))))
   rcases qq (decide ((x0.MTags.length:Int) = 0)) with hb3 | hb3
   ·rw [hb3]; try simp only [hb3,bb] at hR
    refine ae (.ptr 0 6) (ae (.ro 1 (x0.MTags.map bI)) (ae (.ptr 1 4) (ae (.int .u32 t1.Tag) ?_)))
    generalize hc39:F150 x0.MTags t1.Tag = c39 at hR
    try dsimp only at hR
    refine av (r:=.bool c39) rfl rfl rfl (f150_ok x0.MTags t1.Tag _ hc39) rfl rfl (ae (.bool c39) (af rfl (aa (ah qv (af rfl (af rfl (af rfl (ae (.bool (decide (x0.MKind = t1.Kind))) (af rfl ?_)))))))))
    rcases qq (decide (x0.MKind = t1.Kind)) with hb4 | hb4
    ·rw [hb4]; try simp only [hb4,bb] at hR
     refine ag rfl rfl (ae (.bool false) (af rfl ?_))
     iterate 7 refine ag rfl rfl ?_
     refine ae (.bool false) (af rfl (aa (aj ?_)))
     subst hR
     exact ai [] (.inr rfl) rfl rfl rfl rfl
    ·rw [hb4]; try simp only [hb4,bb] at hR
     refine af rfl (ae (.bool c39) (af rfl ?_))
     rcases qq (c39) with hb5 | hb5
     ·rw [hb5]; try simp only [hb5,bb] at hR
      iterate 7 refine ag rfl rfl ?_
      refine ae (.bool false) (af rfl (aa (aj ?_)))
      subst hR
      exact ai [] (.inr rfl) rfl rfl rfl rfl
     ·rw [hb5]; try simp only [hb5,bb] at hR
      refine ae (.ptr 1 3) (ae (.int .i64 t1.Cost) (ae (.ptr 0 4) (ae (.int .i64 x0.MLow) (ae (.ptr 0 5) (ae (.int .i64 x0.MHigh) ?_)))))
      generalize hc55:F138 t1.Cost x0.MLow x0.MHigh = c55 at hR
      try dsimp only at hR
      refine av (r:=.bool c55) rfl rfl rfl (f138_ok t1.Cost x0.MLow x0.MHigh _ hc55) rfl rfl (ae (.bool c55) (af rfl (aa (aj ?_))))
      subst hR
      exact ai [] (.inr rfl) rfl rfl rfl rfl
   ·rw [hb3]; try simp only [hb3,bb] at hR
    iterate 5 refine ag rfl rfl ?_
    refine ae (.bool true) (af rfl (aa (ah qv (af rfl (af rfl (af rfl (ae (.bool (decide (x0.MKind = t1.Kind))) (af rfl ?_))))))))
    rcases qq (decide (x0.MKind = t1.Kind)) with hb6 | hb6
    ·rw [hb6]; try simp only [hb6,bb] at hR
     refine ag rfl rfl (ae (.bool false) (af rfl ?_))
     iterate 7 refine ag rfl rfl ?_
     refine ae (.bool false) (af rfl (aa (aj ?_)))
     subst hR
     exact ai [] (.inr rfl) rfl rfl rfl rfl
    ·rw [hb6]; try simp only [hb6,bb] at hR
     refine af rfl (ae (.bool true) (af rfl (ae (.ptr 1 3) (ae (.int .i64 t1.Cost) (ae (.ptr 0 4) (ae (.int .i64 x0.MLow) (ae (.ptr 0 5) (ae (.int .i64 x0.MHigh) ?_))))))))
     generalize hc55:F138 t1.Cost x0.MLow x0.MHigh = c55 at hR
     try dsimp only at hR
     refine av (r:=.bool c55) rfl rfl rfl (f138_ok t1.Cost x0.MLow x0.MHigh _ hc55) rfl rfl (ae (.bool c55) (af rfl (aa (aj ?_))))
     subst hR
     exact ai [] (.inr rfl) rfl rfl rfl rfl
  ·rw [hb2]; try simp only [hb2,bb] at hR
   iterate 5 refine ag rfl rfl ?_
   refine ae (.bool true) (af rfl (aa (ah qv (ae (.ptr 0 6) (ae (.ro 1 (x0.MTags.map bI)) (ar (v':=.int .i64 (x0.MTags.length:Int)) rfl rfl rfl rfl (ww _ _) (ae (.bool (decide ((x0.MTags.length:Int) = 0))) (af rfl ?_))))))))
   rcases qq (decide ((x0.MTags.length:Int) = 0)) with hb7 | hb7
   ·rw [hb7]; try simp only [hb7,bb] at hR
    refine ae (.ptr 0 6) (ae (.ro 1 (x0.MTags.map bI)) (ae (.ptr 1 4) (ae (.int .u32 t1.Tag) ?_)))
    generalize hc39:F150 x0.MTags t1.Tag = c39 at hR
    try dsimp only at hR
    refine av (r:=.bool c39) rfl rfl rfl (f150_ok x0.MTags t1.Tag _ hc39) rfl rfl (ae (.bool c39) (af rfl (aa (ah qv (af rfl (af rfl (af rfl (ae (.bool true) (af rfl (af rfl (ae (.bool c39) (af rfl ?_))))))))))))
    rcases qq (c39) with hb8 | hb8
    ·rw [hb8]; try simp only [hb8,bb] at hR
     iterate 7 refine ag rfl rfl ?_
     refine ae (.bool false) (af rfl (aa (aj ?_)))
     subst hR
     exact ai [] (.inr rfl) rfl rfl rfl rfl
    ·rw [hb8]; try simp only [hb8,bb] at hR
     refine ae (.ptr 1 3) (ae (.int .i64 t1.Cost) (ae (.ptr 0 4) (ae (.int .i64 x0.MLow) (ae (.ptr 0 5) (ae (.int .i64 x0.MHigh) ?_)))))
     generalize hc55:F138 t1.Cost x0.MLow x0.MHigh = c55 at hR
     try dsimp only at hR
     refine av (r:=.bool c55) rfl rfl rfl (f138_ok t1.Cost x0.MLow x0.MHigh _ hc55) rfl rfl (ae (.bool c55) (af rfl (aa (aj ?_))))
     subst hR
     exact ai [] (.inr rfl) rfl rfl rfl rfl
   ·rw [hb7]; try simp only [hb7,bb] at hR
    iterate 5 refine ag rfl rfl ?_
    refine ae (.bool true) (af rfl (aa (ah qv (af rfl (af rfl (af rfl (ae (.bool true) (af rfl (af rfl (ae (.bool true) (af rfl (ae (.ptr 1 3) (ae (.int .i64 t1.Cost) ?_)))))))))))))
    refine ae (.ptr 0 4) (ae (.int .i64 x0.MLow) (ae (.ptr 0 5) (ae (.int .i64 x0.MHigh) ?_)))
    generalize hc55:F138 t1.Cost x0.MLow x0.MHigh = c55 at hR
    try dsimp only at hR
    refine av (r:=.bool c55) rfl rfl rfl (f138_ok t1.Cost x0.MLow x0.MHigh _ hc55) rfl rfl (ae (.bool c55) (af rfl (aa (aj ?_))))
    subst hR
    exact ai [] (.inr rfl) rfl rfl rfl rfl
 ·rw [hb1]; try simp only [hb1,bb] at hR
  refine ap rfl (az qv (ae (.ptr 0 2) (ae (.ro 6 (x0.Listf.map zv.c)) (ae (.ptr 1 0) (ae (.agg (zy.c t1.P)) ?_)))))
  generalize hc17:F149 x0.Listf t1.P = c17 at hR
  obtain ⟨c17a,c17b⟩:=c17; try dsimp only at hR
  refine av (r:=.tup [.bool c17a,.int .i64 c17b]) rfl rfl rfl (f149_ok x0.Listf t1.P _ hc17) rfl rfl (af rfl (ae (.bool c17a) (ae (.int .i64 c17b) (af rfl (aa (ah qv (ae (.ptr 0 3) (ae (.int .i64 x0.MKind) (ae (.bool (decide (x0.MKind = (-1)))) (af rfl ?_))))))))))
  rcases qq (decide (x0.MKind = (-1))) with hb9 | hb9
  ·rw [hb9]; try simp only [hb9,bb] at hR
   refine ae (.ptr 0 3) (ae (.int .i64 x0.MKind) (ae (.ptr 1 2) (ae (.int .i64 t1.Kind) (ae (.bool (decide (x0.MKind = t1.Kind))) (ae (.bool (decide (x0.MKind = t1.Kind))) (af rfl (aa (ah qv (ae (.ptr 0 6) (ae (.ro 1 (x0.MTags.map bI)) (ar (v':=.int .i64 (x0.MTags.length:Int)) rfl rfl rfl rfl (ww _ _) (ae (.bool (decide ((x0.MTags.length:Int) = 0))) (af rfl ?_)))))))))))))
   rcases qq (decide ((x0.MTags.length:Int) = 0)) with hb10 | hb10
   ·rw [hb10]; try simp only [hb10,bb] at hR
    refine ae (.ptr 0 6) (ae (.ro 1 (x0.MTags.map bI)) (ae (.ptr 1 4) (ae (.int .u32 t1.Tag) ?_)))
    generalize hc39:F150 x0.MTags t1.Tag = c39 at hR
    try dsimp only at hR
    refine av (r:=.bool c39) rfl rfl rfl (f150_ok x0.MTags t1.Tag _ hc39) rfl rfl (ae (.bool c39) (af rfl (aa (ah qv (af rfl (af rfl ?_))))))
    rcases qq (c17a) with hb11 | hb11
    ·rw [hb11]; try simp only [hb11,bb] at hR
     refine ag rfl rfl (ae (.bool false) (af rfl (ag rfl rfl (ae (.bool false) (af rfl ?_)))))
     iterate 7 refine ag rfl rfl ?_
     refine ae (.bool false) (af rfl (aa (aj ?_)))
     subst hR
     exact ai [] (.inr rfl) rfl rfl rfl rfl
    ·rw [hb11]; try simp only [hb11,bb] at hR
     refine af rfl (ae (.bool (decide (x0.MKind = t1.Kind))) (af rfl ?_))
     rcases qq (decide (x0.MKind = t1.Kind)) with hb12 | hb12
     ·rw [hb12]; try simp only [hb12,bb] at hR
      refine ag rfl rfl (ae (.bool false) (af rfl ?_))
      iterate 7 refine ag rfl rfl ?_
      refine ae (.bool false) (af rfl (aa (aj ?_)))
      subst hR
      exact ai [] (.inr rfl) rfl rfl rfl rfl
     ·rw [hb12]; try simp only [hb12,bb] at hR
      refine af rfl (ae (.bool c39) (af rfl ?_))
      rcases qq (c39) with hb13 | hb13
      ·rw [hb13]; try simp only [hb13,bb] at hR
       iterate 7 refine ag rfl rfl ?_
       refine ae (.bool false) (af rfl (aa (aj ?_)))
       subst hR
       exact ai [] (.inr rfl) rfl rfl rfl rfl
      ·rw [hb13]; try simp only [hb13,bb] at hR
       refine ae (.ptr 1 3) (ae (.int .i64 t1.Cost) (ae (.ptr 0 4) (ae (.int .i64 x0.MLow) (ae (.ptr 0 5) (ae (.int .i64 x0.MHigh) ?_)))))
       generalize hc55:F138 t1.Cost x0.MLow x0.MHigh = c55 at hR
       try dsimp only at hR
       refine av (r:=.bool c55) rfl rfl rfl (f138_ok t1.Cost x0.MLow x0.MHigh _ hc55) rfl rfl (ae (.bool c55) (af rfl (aa (aj ?_))))
       subst hR
       exact ai [] (.inr rfl) rfl rfl rfl rfl
   ·rw [hb10]; try simp only [hb10,bb] at hR
    iterate 5 refine ag rfl rfl ?_
    refine ae (.bool true) (af rfl (aa (ah qv (af rfl (af rfl ?_)))))
    rcases qq (c17a) with hb14 | hb14
    ·rw [hb14]; try simp only [hb14,bb] at hR
     refine ag rfl rfl (ae (.bool false) (af rfl (ag rfl rfl (ae (.bool false) (af rfl ?_)))))
     iterate 7 refine ag rfl rfl ?_
     refine ae (.bool false) (af rfl (aa (aj ?_)))
     subst hR
     exact ai [] (.inr rfl) rfl rfl rfl rfl
    ·rw [hb14]; try simp only [hb14,bb] at hR
     refine af rfl (ae (.bool (decide (x0.MKind = t1.Kind))) (af rfl ?_))
     rcases qq (decide (x0.MKind = t1.Kind)) with hb15 | hb15
     ·rw [hb15]; try simp only [hb15,bb] at hR
      refine ag rfl rfl (ae (.bool false) (af rfl ?_))
      iterate 7 refine ag rfl rfl ?_
      refine ae (.bool false) (af rfl (aa (aj ?_)))
      subst hR
      exact ai [] (.inr rfl) rfl rfl rfl rfl
     ·rw [hb15]; try simp only [hb15,bb] at hR
      refine af rfl (ae (.bool true) (af rfl (ae (.ptr 1 3) (ae (.int .i64 t1.Cost) (ae (.ptr 0 4) (ae (.int .i64 x0.MLow) (ae (.ptr 0 5) (ae (.int .i64 x0.MHigh) ?_))))))))
      generalize hc55:F138 t1.Cost x0.MLow x0.MHigh = c55 at hR
      try dsimp only at hR
      refine av (r:=.bool c55) rfl rfl rfl (f138_ok t1.Cost x0.MLow x0.MHigh _ hc55) rfl rfl (ae (.bool c55) (af rfl (aa (aj ?_))))
      subst hR
      exact ai [] (.inr rfl) rfl rfl rfl rfl
  ·rw [hb9]; try simp only [hb9,bb] at hR
   iterate 5 refine ag rfl rfl ?_
   refine ae (.bool true) (af rfl (aa (ah qv (ae (.ptr 0 6) (ae (.ro 1 (x0.MTags.map bI)) (ar (v':=.int .i64 (x0.MTags.length:Int)) rfl rfl rfl rfl (ww _ _) (ae (.bool (decide ((x0.MTags.length:Int) = 0))) (af rfl ?_))))))))
   rcases qq (decide ((x0.MTags.length:Int) = 0)) with hb16 | hb16
   ·rw [hb16]; try simp only [hb16,bb] at hR
    refine ae (.ptr 0 6) (ae (.ro 1 (x0.MTags.map bI)) (ae (.ptr 1 4) (ae (.int .u32 t1.Tag) ?_)))
    generalize hc39:F150 x0.MTags t1.Tag = c39 at hR
    try dsimp only at hR
    refine av (r:=.bool c39) rfl rfl rfl (f150_ok x0.MTags t1.Tag _ hc39) rfl rfl (ae (.bool c39) (af rfl (aa (ah qv (af rfl (af rfl ?_))))))
    rcases qq (c17a) with hb17 | hb17
    ·rw [hb17]; try simp only [hb17,bb] at hR
     refine ag rfl rfl (ae (.bool false) (af rfl (ag rfl rfl (ae (.bool false) (af rfl ?_)))))
     iterate 7 refine ag rfl rfl ?_
     refine ae (.bool false) (af rfl (aa (aj ?_)))
     subst hR
     exact ai [] (.inr rfl) rfl rfl rfl rfl
    ·rw [hb17]; try simp only [hb17,bb] at hR
     refine af rfl (ae (.bool true) (af rfl (af rfl (ae (.bool c39) (af rfl ?_)))))
     rcases qq (c39) with hb18 | hb18
     ·rw [hb18]; try simp only [hb18,bb] at hR
      iterate 7 refine ag rfl rfl ?_
      refine ae (.bool false) (af rfl (aa (aj ?_)))
      subst hR
      exact ai [] (.inr rfl) rfl rfl rfl rfl
     ·rw [hb18]; try simp only [hb18,bb] at hR
      refine ae (.ptr 1 3) (ae (.int .i64 t1.Cost) (ae (.ptr 0 4) (ae (.int .i64 x0.MLow) (ae (.ptr 0 5) (ae (.int .i64 x0.MHigh) ?_)))))
      generalize hc55:F138 t1.Cost x0.MLow x0.MHigh = c55 at hR
      try dsimp only at hR
      refine av (r:=.bool c55) rfl rfl rfl (f138_ok t1.Cost x0.MLow x0.MHigh _ hc55) rfl rfl (ae (.bool c55) (af rfl (aa (aj ?_))))
      subst hR
      exact ai [] (.inr rfl) rfl rfl rfl rfl
   ·rw [hb16]; try simp only [hb16,bb] at hR
    iterate 5 refine ag rfl rfl ?_
    refine ae (.bool true) (af rfl (aa (ah qv (af rfl (af rfl ?_)))))
    rcases qq (c17a) with hb19 | hb19
    ·rw [hb19]; try simp only [hb19,bb] at hR
     refine ag rfl rfl (ae (.bool false) (af rfl (ag rfl rfl (ae (.bool false) (af rfl ?_)))))
     iterate 7 refine ag rfl rfl ?_
     refine ae (.bool false) (af rfl (aa (aj ?_)))
     subst hR
     exact ai [] (.inr rfl) rfl rfl rfl rfl
    ·rw [hb19]; try simp only [hb19,bb] at hR
     refine af rfl (ae (.bool true) (af rfl (af rfl (ae (.bool true) (af rfl (ae (.ptr 1 3) (ae (.int .i64 t1.Cost) (ae (.ptr 0 4) (ae (.int .i64 x0.MLow) (ae (.ptr 0 5) (ae (.int .i64 x0.MHigh) ?_)))))))))))
     generalize hc55:F138 t1.Cost x0.MLow x0.MHigh = c55 at hR
     try dsimp only at hR
     refine av (r:=.bool c55) rfl rfl rfl (f138_ok t1.Cost x0.MLow x0.MHigh _ hc55) rfl rfl (ae (.bool c55) (af rfl (aa (aj ?_))))
     subst hR
     exact ai [] (.inr rfl) rfl rfl rfl rfl
theorem f120_ok (x0:zx) (a1:zq) (R:Bool) (hR:F120 x0 a1 = R):FnOk Tryz.prog 120 [.agg (zx.c x0),.rptr (zq.c a1)] [] 0 (.bool R) [] 0:=by
 refine FnOk.wk i120 rfl rfl ?_
 unfold F120 at hR
 change WK _ _ _ [ac120] _ ⟨[(0,.agg (zx.c x0)),(1,.rptr (zq.c a1))],[],0⟩
 unfold ac120
 refine ah qv (aw (v':=.ptr 0 0) (zj:=[(0,.box (zx.c x0))]) (zk:=1) rfl rfl rfl rfl rfl rfl rfl (af rfl (aa (ah qv (ae (.agg (zx.c x0)) (ae (.agg (zq.c a1)) ?_))))))
 generalize hc6:F121 x0 a1 = c6 at hR
 try dsimp only at hR
 refine av (r:=.bool c6) rfl rfl rfl (f121_ok x0 a1 _ hc6) rfl rfl (af rfl (aa (aj ?_)))
 subst hR
 exact ai [] (.inr rfl) rfl rfl rfl rfl
theorem f122_ok (x0:zx) (t1:zq) (R:zq) (hR:F122 x0 t1 = R):FnOk Tryz.prog 122 [.agg (zx.c x0),.agg (zq.c t1)] [] 0 (.agg (zq.c R)) [] 0:=by
 refine FnOk.wk i122 rfl rfl ?_
 unfold F122 at hR
 change WK _ _ _ [ac122] _ ⟨[(0,.agg (zx.c x0)),(1,.agg (zq.c t1))],[],0⟩
 unfold ac122
 refine ah qv (aw (v':=.ptr 0 0) (zj:=[(0,.box (zx.c x0))]) (zk:=1) rfl rfl rfl rfl rfl rfl rfl (aw (v':=.ptr 1 0) (zj:=[(0,.box (zx.c x0)),(1,.box (zq.c t1))]) (zk:=2) rfl rfl rfl rfl rfl rfl rfl (aw (v':=.ptr 2 0) (zj:=[(0,.box (zx.c x0)),(1,.box (zq.c t1)),(2,.box [.int .u32 0,.int .i64 0,.int .i64 0,.int .i64 0,.int .u32 0])]) (zk:=3) rfl rfl rfl rfl rfl rfl rfl (aa (ak (ah qv (ae (.ptr 0 7) (ae (.int .i64 x0.SCost) (ae (.bool (!decide (x0.SCost = (-1)))) (aa ?_))))))))))
 rcases qq (decide (x0.SCost = (-1))) with hb1 | hb1
 ·rw [hb1]; try simp only [hb1,bb] at hR
  refine ap rfl (az qv (ae (.ptr 0 7) (ae (.int .i64 x0.SCost) (ae (.ptr 1 3) (ay (zj:=[(0,.box (zx.c x0)),(1,.box [.int .u32 t1.P.A,.int .i64 t1.P.N,.int .i64 t1.Kind,.int .i64 x0.SCost,.int .u32 t1.Tag]),(2,.box [.int .u32 0,.int .i64 0,.int .i64 0,.int .i64 0,.int .u32 0])]) (zk:=3) rfl rfl rfl rfl rfl (aa (ak (ah qv (ae (.ptr 0 9) (ae (.int .i64 x0.SKind) (ae (.bool (!decide (x0.SKind = (-1)))) (aa ?_))))))))))))
  rcases qq (decide (x0.SKind = (-1))) with hb2 | hb2
  ·rw [hb2]; try simp only [hb2,bb] at hR
   refine ap rfl (az qv (ae (.ptr 0 9) (ae (.int .i64 x0.SKind) (ae (.ptr 1 2) (ay (zj:=[(0,.box (zx.c x0)),(1,.box [.int .u32 t1.P.A,.int .i64 t1.P.N,.int .i64 x0.SKind,.int .i64 x0.SCost,.int .u32 t1.Tag]),(2,.box [.int .u32 0,.int .i64 0,.int .i64 0,.int .i64 0,.int .u32 0])]) (zk:=3) rfl rfl rfl rfl rfl (aa (ak (ah qv (ae (.ptr 0 10) (ae (.bool x0.SetTag) (aa ?_)))))))))))
   rcases qq (x0.SetTag) with hb3 | hb3
   ·rw [hb3]; try simp only [hb3,bb] at hR
    refine aq rfl (aA (ah qv (ae (.ptr 1 3) (ae (.int .i64 x0.SCost) (ae (.ptr 0 8) (ae (.int .i64 x0.SPlus) (ae (.int .i64 (IntKind.i64.wrap (x0.SCost + x0.SPlus))) (ae (.int .i64 (min_ (IntKind.i64.wrap (x0.SCost + x0.SPlus)) 16777215)) (ae (.ptr 1 3) (ay (zj:=[(0,.box (zx.c x0)),(1,.box [.int .u32 t1.P.A,.int .i64 t1.P.N,.int .i64 x0.SKind,.int .i64 (min_ (IntKind.i64.wrap (x0.SCost + x0.SPlus)) 16777215),.int .u32 t1.Tag]),(2,.box [.int .u32 0,.int .i64 0,.int .i64 0,.int .i64 0,.int .u32 0])]) (zk:=3) rfl rfl rfl rfl rfl (aa (ah qv (ae (.agg [.int .u32 t1.P.A,.int .i64 t1.P.N,.int .i64 x0.SKind,.int .i64 (min_ (IntKind.i64.wrap (x0.SCost + x0.SPlus)) 16777215),.int .u32 t1.Tag]) ?_)))))))))))))
    refine ay (zj:=[(0,.box (zx.c x0)),(1,.box [.int .u32 t1.P.A,.int .i64 t1.P.N,.int .i64 x0.SKind,.int .i64 (min_ (IntKind.i64.wrap (x0.SCost + x0.SPlus)) 16777215),.int .u32 t1.Tag]),(2,.box [.int .u32 t1.P.A,.int .i64 t1.P.N,.int .i64 x0.SKind,.int .i64 (min_ (IntKind.i64.wrap (x0.SCost + x0.SPlus)) 16777215),.int .u32 t1.Tag])]) (zk:=3) rfl rfl rfl rfl rfl (aa (aj ?_))
    subst hR
    exact ai [] (.inr rfl) rfl rfl rfl rfl
   ·rw [hb3]; try simp only [hb3,bb] at hR
    refine ap rfl (az qv (ae (.ptr 0 11) (ae (.int .u32 x0.STag) (ae (.ptr 1 4) (ay (zj:=[(0,.box (zx.c x0)),(1,.box [.int .u32 t1.P.A,.int .i64 t1.P.N,.int .i64 x0.SKind,.int .i64 x0.SCost,.int .u32 x0.STag]),(2,.box [.int .u32 0,.int .i64 0,.int .i64 0,.int .i64 0,.int .u32 0])]) (zk:=3) rfl rfl rfl rfl rfl (aa (ah qv (ae (.ptr 1 3) (ae (.int .i64 x0.SCost) (ae (.ptr 0 8) (ae (.int .i64 x0.SPlus) (ae (.int .i64 (IntKind.i64.wrap (x0.SCost + x0.SPlus))) (ae (.int .i64 (min_ (IntKind.i64.wrap (x0.SCost + x0.SPlus)) 16777215)) ?_)))))))))))))
    refine ae (.ptr 1 3) (ay (zj:=[(0,.box (zx.c x0)),(1,.box [.int .u32 t1.P.A,.int .i64 t1.P.N,.int .i64 x0.SKind,.int .i64 (min_ (IntKind.i64.wrap (x0.SCost + x0.SPlus)) 16777215),.int .u32 x0.STag]),(2,.box [.int .u32 0,.int .i64 0,.int .i64 0,.int .i64 0,.int .u32 0])]) (zk:=3) rfl rfl rfl rfl rfl (aa (ah qv (ae (.agg [.int .u32 t1.P.A,.int .i64 t1.P.N,.int .i64 x0.SKind,.int .i64 (min_ (IntKind.i64.wrap (x0.SCost + x0.SPlus)) 16777215),.int .u32 x0.STag]) (ay (zj:=[(0,.box (zx.c x0)),(1,.box [.int .u32 t1.P.A,.int .i64 t1.P.N,.int .i64 x0.SKind,.int .i64 (min_ (IntKind.i64.wrap (x0.SCost + x0.SPlus)) 16777215),.int .u32 x0.STag]),(2,.box [.int .u32 t1.P.A,.int .i64 t1.P.N,.int .i64 x0.SKind,.int .i64 (min_ (IntKind.i64.wrap (x0.SCost + x0.SPlus)) 16777215),.int .u32 x0.STag])]) (zk:=3) rfl rfl rfl rfl rfl (aa (aj ?_)))))))
    subst hR
    exact ai [] (.inr rfl) rfl rfl rfl rfl
  ·rw [hb2]; try simp only [hb2,bb] at hR
   refine aq rfl (aA (ak (ah qv (ae (.ptr 0 10) (ae (.bool x0.SetTag) (aa ?_))))))
   rcases qq (x0.SetTag) with hb4 | hb4
   ·rw [hb4]; try simp only [hb4,bb] at hR
    refine aq rfl (aA (ah qv (ae (.ptr 1 3) (ae (.int .i64 x0.SCost) (ae (.ptr 0 8) (ae (.int .i64 x0.SPlus) (ae (.int .i64 (IntKind.i64.wrap (x0.SCost + x0.SPlus))) (ae (.int .i64 (min_ (IntKind.i64.wrap (x0.SCost + x0.SPlus)) 16777215)) (ae (.ptr 1 3) (ay (zj:=[(0,.box (zx.c x0)),(1,.box [.int .u32 t1.P.A,.int .i64 t1.P.N,.int .i64 t1.Kind,.int .i64 (min_ (IntKind.i64.wrap (x0.SCost + x0.SPlus)) 16777215),.int .u32 t1.Tag]),(2,.box [.int .u32 0,.int .i64 0,.int .i64 0,.int .i64 0,.int .u32 0])]) (zk:=3) rfl rfl rfl rfl rfl (aa (ah qv (ae (.agg [.int .u32 t1.P.A,.int .i64 t1.P.N,.int .i64 t1.Kind,.int .i64 (min_ (IntKind.i64.wrap (x0.SCost + x0.SPlus)) 16777215),.int .u32 t1.Tag]) ?_)))))))))))))
    refine ay (zj:=[(0,.box (zx.c x0)),(1,.box [.int .u32 t1.P.A,.int .i64 t1.P.N,.int .i64 t1.Kind,.int .i64 (min_ (IntKind.i64.wrap (x0.SCost + x0.SPlus)) 16777215),.int .u32 t1.Tag]),(2,.box [.int .u32 t1.P.A,.int .i64 t1.P.N,.int .i64 t1.Kind,.int .i64 (min_ (IntKind.i64.wrap (x0.SCost + x0.SPlus)) 16777215),.int .u32 t1.Tag])]) (zk:=3) rfl rfl rfl rfl rfl (aa (aj ?_))
    subst hR
    exact ai [] (.inr rfl) rfl rfl rfl rfl
   ·rw [hb4]; try simp only [hb4,bb] at hR
    refine ap rfl (az qv (ae (.ptr 0 11) (ae (.int .u32 x0.STag) (ae (.ptr 1 4) (ay (zj:=[(0,.box (zx.c x0)),(1,.box [.int .u32 t1.P.A,.int .i64 t1.P.N,.int .i64 t1.Kind,.int .i64 x0.SCost,.int .u32 x0.STag]),(2,.box [.int .u32 0,.int .i64 0,.int .i64 0,.int .i64 0,.int .u32 0])]) (zk:=3) rfl rfl rfl rfl rfl (aa (ah qv (ae (.ptr 1 3) (ae (.int .i64 x0.SCost) (ae (.ptr 0 8) (ae (.int .i64 x0.SPlus) (ae (.int .i64 (IntKind.i64.wrap (x0.SCost + x0.SPlus))) (ae (.int .i64 (min_ (IntKind.i64.wrap (x0.SCost + x0.SPlus)) 16777215)) ?_)))))))))))))
    refine ae (.ptr 1 3) (ay (zj:=[(0,.box (zx.c x0)),(1,.box [.int .u32 t1.P.A,.int .i64 t1.P.N,.int .i64 t1.Kind,.int .i64 (min_ (IntKind.i64.wrap (x0.SCost + x0.SPlus)) 16777215),.int .u32 x0.STag]),(2,.box [.int .u32 0,.int .i64 0,.int .i64 0,.int .i64 0,.int .u32 0])]) (zk:=3) rfl rfl rfl rfl rfl (aa (ah qv (ae (.agg [.int .u32 t1.P.A,.int .i64 t1.P.N,.int .i64 t1.Kind,.int .i64 (min_ (IntKind.i64.wrap (x0.SCost + x0.SPlus)) 16777215),.int .u32 x0.STag]) (ay (zj:=[(0,.box (zx.c x0)),(1,.box [.int .u32 t1.P.A,.int .i64 t1.P.N,.int .i64 t1.Kind,.int .i64 (min_ (IntKind.i64.wrap (x0.SCost + x0.SPlus)) 16777215),.int .u32 x0.STag]),(2,.box [.int .u32 t1.P.A,.int .i64 t1.P.N,.int .i64 t1.Kind,.int .i64 (min_ (IntKind.i64.wrap (x0.SCost + x0.SPlus)) 16777215),.int .u32 x0.STag])]) (zk:=3) rfl rfl rfl rfl rfl (aa (aj ?_)))))))
    subst hR
    exact ai [] (.inr rfl) rfl rfl rfl rfl
 ·rw [hb1]; try simp only [hb1,bb] at hR
  refine aq rfl (aA (ak (ah qv (ae (.ptr 0 9) (ae (.int .i64 x0.SKind) (ae (.bool (!decide (x0.SKind = (-1)))) (aa ?_)))))))
  rcases qq (decide (x0.SKind = (-1))) with hb5 | hb5
  ·rw [hb5]; try simp only [hb5,bb] at hR
   refine ap rfl (az qv (ae (.ptr 0 9) (ae (.int .i64 x0.SKind) (ae (.ptr 1 2) (ay (zj:=[(0,.box (zx.c x0)),(1,.box [.int .u32 t1.P.A,.int .i64 t1.P.N,.int .i64 x0.SKind,.int .i64 t1.Cost,.int .u32 t1.Tag]),(2,.box [.int .u32 0,.int .i64 0,.int .i64 0,.int .i64 0,.int .u32 0])]) (zk:=3) rfl rfl rfl rfl rfl (aa (ak (ah qv (ae (.ptr 0 10) (ae (.bool x0.SetTag) (aa ?_)))))))))))
   rcases qq (x0.SetTag) with hb6 | hb6
   ·rw [hb6]; try simp only [hb6,bb] at hR
    refine aq rfl (aA (ah qv (ae (.ptr 1 3) (ae (.int .i64 t1.Cost) (ae (.ptr 0 8) (ae (.int .i64 x0.SPlus) (ae (.int .i64 (IntKind.i64.wrap (t1.Cost + x0.SPlus))) (ae (.int .i64 (min_ (IntKind.i64.wrap (t1.Cost + x0.SPlus)) 16777215)) (ae (.ptr 1 3) (ay (zj:=[(0,.box (zx.c x0)),(1,.box [.int .u32 t1.P.A,.int .i64 t1.P.N,.int .i64 x0.SKind,.int .i64 (min_ (IntKind.i64.wrap (t1.Cost + x0.SPlus)) 16777215),.int .u32 t1.Tag]),(2,.box [.int .u32 0,.int .i64 0,.int .i64 0,.int .i64 0,.int .u32 0])]) (zk:=3) rfl rfl rfl rfl rfl (aa (ah qv (ae (.agg [.int .u32 t1.P.A,.int .i64 t1.P.N,.int .i64 x0.SKind,.int .i64 (min_ (IntKind.i64.wrap (t1.Cost + x0.SPlus)) 16777215),.int .u32 t1.Tag]) ?_)))))))))))))
    refine ay (zj:=[(0,.box (zx.c x0)),(1,.box [.int .u32 t1.P.A,.int .i64 t1.P.N,.int .i64 x0.SKind,.int .i64 (min_ (IntKind.i64.wrap (t1.Cost + x0.SPlus)) 16777215),.int .u32 t1.Tag]),(2,.box [.int .u32 t1.P.A,.int .i64 t1.P.N,.int .i64 x0.SKind,.int .i64 (min_ (IntKind.i64.wrap (t1.Cost + x0.SPlus)) 16777215),.int .u32 t1.Tag])]) (zk:=3) rfl rfl rfl rfl rfl (aa (aj ?_))
    subst hR
    exact ai [] (.inr rfl) rfl rfl rfl rfl
   ·rw [hb6]; try simp only [hb6,bb] at hR
    refine ap rfl (az qv (ae (.ptr 0 11) (ae (.int .u32 x0.STag) (ae (.ptr 1 4) (ay (zj:=[(0,.box (zx.c x0)),(1,.box [.int .u32 t1.P.A,.int .i64 t1.P.N,.int .i64 x0.SKind,.int .i64 t1.Cost,.int .u32 x0.STag]),(2,.box [.int .u32 0,.int .i64 0,.int .i64 0,.int .i64 0,.int .u32 0])]) (zk:=3) rfl rfl rfl rfl rfl (aa (ah qv (ae (.ptr 1 3) (ae (.int .i64 t1.Cost) (ae (.ptr 0 8) (ae (.int .i64 x0.SPlus) (ae (.int .i64 (IntKind.i64.wrap (t1.Cost + x0.SPlus))) (ae (.int .i64 (min_ (IntKind.i64.wrap (t1.Cost + x0.SPlus)) 16777215)) ?_)))))))))))))
    refine ae (.ptr 1 3) (ay (zj:=[(0,.box (zx.c x0)),(1,.box [.int .u32 t1.P.A,.int .i64 t1.P.N,.int .i64 x0.SKind,.int .i64 (min_ (IntKind.i64.wrap (t1.Cost + x0.SPlus)) 16777215),.int .u32 x0.STag]),(2,.box [.int .u32 0,.int .i64 0,.int .i64 0,.int .i64 0,.int .u32 0])]) (zk:=3) rfl rfl rfl rfl rfl (aa (ah qv (ae (.agg [.int .u32 t1.P.A,.int .i64 t1.P.N,.int .i64 x0.SKind,.int .i64 (min_ (IntKind.i64.wrap (t1.Cost + x0.SPlus)) 16777215),.int .u32 x0.STag]) (ay (zj:=[(0,.box (zx.c x0)),(1,.box [.int .u32 t1.P.A,.int .i64 t1.P.N,.int .i64 x0.SKind,.int .i64 (min_ (IntKind.i64.wrap (t1.Cost + x0.SPlus)) 16777215),.int .u32 x0.STag]),(2,.box [.int .u32 t1.P.A,.int .i64 t1.P.N,.int .i64 x0.SKind,.int .i64 (min_ (IntKind.i64.wrap (t1.Cost + x0.SPlus)) 16777215),.int .u32 x0.STag])]) (zk:=3) rfl rfl rfl rfl rfl (aa (aj ?_)))))))
    subst hR
    exact ai [] (.inr rfl) rfl rfl rfl rfl
  ·rw [hb5]; try simp only [hb5,bb] at hR
   refine aq rfl (aA (ak (ah qv (ae (.ptr 0 10) (ae (.bool x0.SetTag) (aa ?_))))))
   rcases qq (x0.SetTag) with hb7 | hb7
   ·rw [hb7]; try simp only [hb7,bb] at hR
    refine aq rfl (aA (ah qv (ae (.ptr 1 3) (ae (.int .i64 t1.Cost) (ae (.ptr 0 8) (ae (.int .i64 x0.SPlus) (ae (.int .i64 (IntKind.i64.wrap (t1.Cost + x0.SPlus))) (ae (.int .i64 (min_ (IntKind.i64.wrap (t1.Cost + x0.SPlus)) 16777215)) (ae (.ptr 1 3) (ay (zj:=[(0,.box (zx.c x0)),(1,.box [.int .u32 t1.P.A,.int .i64 t1.P.N,.int .i64 t1.Kind,.int .i64 (min_ (IntKind.i64.wrap (t1.Cost + x0.SPlus)) 16777215),.int .u32 t1.Tag]),(2,.box [.int .u32 0,.int .i64 0,.int .i64 0,.int .i64 0,.int .u32 0])]) (zk:=3) rfl rfl rfl rfl rfl (aa (ah qv (ae (.agg [.int .u32 t1.P.A,.int .i64 t1.P.N,.int .i64 t1.Kind,.int .i64 (min_ (IntKind.i64.wrap (t1.Cost + x0.SPlus)) 16777215),.int .u32 t1.Tag]) ?_)))))))))))))
    refine ay (zj:=[(0,.box (zx.c x0)),(1,.box [.int .u32 t1.P.A,.int .i64 t1.P.N,.int .i64 t1.Kind,.int .i64 (min_ (IntKind.i64.wrap (t1.Cost + x0.SPlus)) 16777215),.int .u32 t1.Tag]),(2,.box [.int .u32 t1.P.A,.int .i64 t1.P.N,.int .i64 t1.Kind,.int .i64 (min_ (IntKind.i64.wrap (t1.Cost + x0.SPlus)) 16777215),.int .u32 t1.Tag])]) (zk:=3) rfl rfl rfl rfl rfl (aa (aj ?_))
    subst hR
    exact ai [] (.inr rfl) rfl rfl rfl rfl
   ·rw [hb7]; try simp only [hb7,bb] at hR
    refine ap rfl (az qv (ae (.ptr 0 11) (ae (.int .u32 x0.STag) (ae (.ptr 1 4) (ay (zj:=[(0,.box (zx.c x0)),(1,.box [.int .u32 t1.P.A,.int .i64 t1.P.N,.int .i64 t1.Kind,.int .i64 t1.Cost,.int .u32 x0.STag]),(2,.box [.int .u32 0,.int .i64 0,.int .i64 0,.int .i64 0,.int .u32 0])]) (zk:=3) rfl rfl rfl rfl rfl (aa (ah qv (ae (.ptr 1 3) (ae (.int .i64 t1.Cost) (ae (.ptr 0 8) (ae (.int .i64 x0.SPlus) (ae (.int .i64 (IntKind.i64.wrap (t1.Cost + x0.SPlus))) (ae (.int .i64 (min_ (IntKind.i64.wrap (t1.Cost + x0.SPlus)) 16777215)) ?_)))))))))))))
    refine ae (.ptr 1 3) (ay (zj:=[(0,.box (zx.c x0)),(1,.box [.int .u32 t1.P.A,.int .i64 t1.P.N,.int .i64 t1.Kind,.int .i64 (min_ (IntKind.i64.wrap (t1.Cost + x0.SPlus)) 16777215),.int .u32 x0.STag]),(2,.box [.int .u32 0,.int .i64 0,.int .i64 0,.int .i64 0,.int .u32 0])]) (zk:=3) rfl rfl rfl rfl rfl (aa (ah qv (ae (.agg [.int .u32 t1.P.A,.int .i64 t1.P.N,.int .i64 t1.Kind,.int .i64 (min_ (IntKind.i64.wrap (t1.Cost + x0.SPlus)) 16777215),.int .u32 x0.STag]) (ay (zj:=[(0,.box (zx.c x0)),(1,.box [.int .u32 t1.P.A,.int .i64 t1.P.N,.int .i64 t1.Kind,.int .i64 (min_ (IntKind.i64.wrap (t1.Cost + x0.SPlus)) 16777215),.int .u32 x0.STag]),(2,.box [.int .u32 t1.P.A,.int .i64 t1.P.N,.int .i64 t1.Kind,.int .i64 (min_ (IntKind.i64.wrap (t1.Cost + x0.SPlus)) 16777215),.int .u32 x0.STag])]) (zk:=3) rfl rfl rfl rfl rfl (aa (aj ?_)))))))
    subst hR
    exact ai [] (.inr rfl) rfl rfl rfl rfl
theorem f88_ok (m0:List zx) (t1:zq) (R:zq × Bool × Int) (hR:F88 m0 t1 = R):FnOk Tryz.prog 88 [.ro 12 (m0.map zx.c),.agg (zq.c t1)] [] 0 (.tup [.agg (zq.c R.1),.bool R.2.1,.int .i64 R.2.2]) [] 0:=by
 refine FnOk.wk i88 rfl rfl ?_
 unfold F88 at hR
 change WK _ _ _ [ac88] _ ⟨[(0,.ro 12 (m0.map zx.c)),(1,.agg (zq.c t1))],[],0⟩
 unfold ac88
 refine ah qv (aw (v':=.ptr 0 0) (zj:=[(0,.box (zq.c t1))]) (zk:=1) rfl rfl rfl rfl rfl rfl rfl (aw (v':=.ptr 1 0) (zj:=[(0,.box (zq.c t1)),(1,.box [.int .u32 0,.int .i64 0,.int .i64 0,.int .i64 0,.int .u32 0])]) (zk:=2) rfl rfl rfl rfl rfl rfl rfl (af rfl (af rfl (aa (ah qv (af rfl (ae (.fn 120 [] [.ptr 0 0]) ?_))))))))
 generalize hc10:F119 m0 (fun y0=>F120 y0 t1) = c10 at hR
 try dsimp only at hR
 refine dy (r:=.int .i64 c10) [0] rfl rfl rfl rfl (f119_ok m0 120 [] [.rptr (zq.c t1)] (fun y0=>F120 y0 t1) ⟨rfl,rfl⟩ (fun y0 _ hr=>f120_ok y0 t1 _ hr) _ hc10) rfl rfl (af rfl (aa (ak ?_)))
 refine aI (fun _ hK1=>?_)
 refine ah qv (af rfl (ae (.bool (decide (c10 < 0))) (af rfl (aa ?_))))
 rcases qq (decide (c10 < 0)) with hb2 | hb2
 ·rw [hb2]; try simp only [hb2,bb] at hR
  refine aq rfl (ah qv (af rfl (af rfl (aZ (c:=zx.c) (x:=(m0.getD c10.toNat default)) rfl rfl rfl (by ((try simp only [decide_eq_true_eq,decide_eq_false_iff_not,Bool.not_eq_true,Bool.not_eq_false] at *); first | omega | (rw [aW (by omega) (by omega)]; omega) | (unfold min_ max_; (repeat' split) <;> first | omega | (rw [aW (by omega) (by omega)]; omega)))) (cC (by exact F119lt (by assumption) (by assumption))) (ae (.rptr [.bool ((m0.getD c10.toNat default).Permit),.ro 6 (((m0.getD c10.toNat default).Listf).map zv.c),.int .i64 ((m0.getD c10.toNat default).MKind),.int .i64 ((m0.getD c10.toNat default).MLow),.int .i64 ((m0.getD c10.toNat default).MHigh),.ro 1 (((m0.getD c10.toNat default).MTags).map bI),.int .i64 ((m0.getD c10.toNat default).SCost),.int .i64 ((m0.getD c10.toNat default).SPlus),.int .i64 ((m0.getD c10.toNat default).SKind),.bool ((m0.getD c10.toNat default).SetTag),.int .u32 ((m0.getD c10.toNat default).STag)]) (ae (.bool ((m0.getD c10.toNat default).Permit)) (ae (.bool (!((m0.getD c10.toNat default).Permit))) (af rfl (aa ?_)))))))))
  rcases qq ((m0.getD c10.toNat default).Permit) with hb3 | hb3
  ·rw [hb3]; try simp only [hb3,bb] at hR
   refine ap rfl (ak (aE qv (au (.agg [.int .u32 0,.int .i64 0,.int .i64 0,.int .i64 0,.int .u32 0]) (aG rfl (aG rfl (bn (c:=zx.c) (x:=(m0.getD c10.toNat default)) rfl rfl rfl (by ((try simp only [decide_eq_true_eq,decide_eq_false_iff_not,Bool.not_eq_true,Bool.not_eq_false] at *); first | omega | (rw [aW (by omega) (by omega)]; omega) | (unfold min_ max_; (repeat' split) <;> first | omega | (rw [aW (by omega) (by omega)]; omega)))) (cC (by exact F119lt (by assumption) (by assumption))) (au (.rptr [.int .i64 ((m0.getD c10.toNat default).Seq),.bool ((m0.getD c10.toNat default).Permit),.ro 6 (((m0.getD c10.toNat default).Listf).map zv.c),.int .i64 ((m0.getD c10.toNat default).MKind),.int .i64 ((m0.getD c10.toNat default).MLow),.int .i64 ((m0.getD c10.toNat default).MHigh),.ro 1 (((m0.getD c10.toNat default).MTags).map bI),.int .i64 ((m0.getD c10.toNat default).SCost),.int .i64 ((m0.getD c10.toNat default).SPlus),.int .i64 ((m0.getD c10.toNat default).SKind),.bool ((m0.getD c10.toNat default).SetTag),.int .u32 ((m0.getD c10.toNat default).STag)]) (au (.int .i64 ((m0.getD c10.toNat default).Seq)) (aV (zj:=[(0,.box (zq.c t1)),(1,.box [.int .u32 0,.int .i64 0,.int .i64 0,.int .i64 0,.int .u32 0])]) (zk:=2) rfl rfl rfl rfl rfl (aG rfl (aG rfl (aH rfl (aj ?_)))))))))))))
   refine aS ?_
   subst hR
   exact ai [] (.inr rfl) rfl rfl rfl rfl
  ·rw [hb3]; try simp only [hb3,bb] at hR
   refine aq rfl (aA ?_)
   refine aB (am (hK1 _ ?_))
   refine ak (aE qv (aG rfl (aG rfl (bn (c:=zx.c) (x:=(m0.getD c10.toNat default)) rfl rfl rfl (by ((try simp only [decide_eq_true_eq,decide_eq_false_iff_not,Bool.not_eq_true,Bool.not_eq_false] at *); first | omega | (rw [aW (by omega) (by omega)]; omega) | (unfold min_ max_; (repeat' split) <;> first | omega | (rw [aW (by omega) (by omega)]; omega)))) (cC (by exact F119lt (by assumption) (by assumption))) (au (.agg [.int .i64 ((m0.getD c10.toNat default).Seq),.bool ((m0.getD c10.toNat default).Permit),.ro 6 (((m0.getD c10.toNat default).Listf).map zv.c),.int .i64 ((m0.getD c10.toNat default).MKind),.int .i64 ((m0.getD c10.toNat default).MLow),.int .i64 ((m0.getD c10.toNat default).MHigh),.ro 1 (((m0.getD c10.toNat default).MTags).map bI),.int .i64 ((m0.getD c10.toNat default).SCost),.int .i64 ((m0.getD c10.toNat default).SPlus),.int .i64 ((m0.getD c10.toNat default).SKind),.bool ((m0.getD c10.toNat default).SetTag),.int .u32 ((m0.getD c10.toNat default).STag)]) (au (.agg (zq.c t1)) ?_))))))
   generalize hc33:F122 (m0.getD c10.toNat default) t1 = c33 at hR
   try dsimp only at hR
   refine aL (r:=.agg (zq.c c33)) rfl rfl rfl (f122_ok (m0.getD c10.toNat default) t1 _ hc33) rfl rfl (aG rfl (aG rfl (bn (c:=zx.c) (x:=(m0.getD c10.toNat default)) rfl rfl rfl (by ((try simp only [decide_eq_true_eq,decide_eq_false_iff_not,Bool.not_eq_true,Bool.not_eq_false] at *); first | omega | (rw [aW (by omega) (by omega)]; omega) | (unfold min_ max_; (repeat' split) <;> first | omega | (rw [aW (by omega) (by omega)]; omega)))) (cC (by exact F119lt (by assumption) (by assumption))) (au (.rptr [.int .i64 ((m0.getD c10.toNat default).Seq),.bool ((m0.getD c10.toNat default).Permit),.ro 6 (((m0.getD c10.toNat default).Listf).map zv.c),.int .i64 ((m0.getD c10.toNat default).MKind),.int .i64 ((m0.getD c10.toNat default).MLow),.int .i64 ((m0.getD c10.toNat default).MHigh),.ro 1 (((m0.getD c10.toNat default).MTags).map bI),.int .i64 ((m0.getD c10.toNat default).SCost),.int .i64 ((m0.getD c10.toNat default).SPlus),.int .i64 ((m0.getD c10.toNat default).SKind),.bool ((m0.getD c10.toNat default).SetTag),.int .u32 ((m0.getD c10.toNat default).STag)]) (au (.int .i64 ((m0.getD c10.toNat default).Seq)) (aV (zj:=[(0,.box (zq.c t1)),(1,.box (zq.c c33))]) (zk:=2) rfl rfl rfl rfl rfl (aG rfl (aG rfl (aH rfl (aj ?_))))))))))
   subst hR
   exact ai [] (.inr rfl) rfl rfl rfl rfl
 ·rw [hb2]; try simp only [hb2,bb] at hR
  refine ap rfl (ah qv (ae (.agg [.int .u32 0,.int .i64 0,.int .i64 0,.int .i64 0,.int .u32 0]) (ay (zj:=[(0,.box (zq.c t1)),(1,.box [.int .u32 0,.int .i64 0,.int .i64 0,.int .i64 0,.int .u32 0])]) (zk:=2) rfl rfl rfl rfl rfl (af rfl (af rfl (aa (aj (aS ?_))))))))
  subst hR
  exact ai [] (.inr rfl) rfl rfl rfl rfl
theorem f47_ok (x0:zz) (c1:qj) (R:qj × Bool) (hR:F47 x0 c1 = some R):FnOk Tryz.prog 47 [.agg (zz.c x0),.agg (qj.c c1)] [] 0 (.tup [.agg (qj.c R.1),.bool R.2]) [] 0:=by
 refine FnOk.wk i47 rfl rfl ?_
 unfold F47 at hR
 try dsimp only at hR
 change WK _ _ _ [ac47] _ ⟨[(0,.agg (zz.c x0)),(1,.agg (qj.c c1))],[],0⟩
 unfold ac47
 refine ah qv (aw (v':=.ptr 0 0) (zj:=[(0,.box (zz.c x0))]) (zk:=1) rfl rfl rfl rfl rfl rfl rfl (aw (v':=.ptr 1 0) (zj:=[(0,.box (zz.c x0)),(1,.box (qj.c c1))]) (zk:=2) rfl rfl rfl rfl rfl rfl rfl (aw (v':=.ptr 2 0) (zj:=[(0,.box (zz.c x0)),(1,.box (qj.c c1)),(2,.box [.int .u32 0,.int .i64 0,.int .i64 0,.int .i64 0,.int .i64 0,.int .i64 0,.int .u32 0,.bool false,.int .i64 0,.nils])]) (zk:=3) rfl rfl rfl rfl rfl rfl rfl (af rfl (aa (ah qv (ae (.ptr 1 0) (ae (.agg (zy.c c1.P)) (ae (.ptr 1 2) (ae (.int .i64 c1.Proto) (ae (.ptr 1 5) (ae (.int .i64 c1.Metric) (ae (.int .i64 (min_ c1.Metric 16777215)) ?_)))))))))))))
 refine ae (.ptr 1 6) (ae (.int .u32 c1.Tag) (ae (.agg [.int .u32 c1.P.A,.int .i64 c1.P.N,.int .i64 c1.Proto,.int .i64 (min_ c1.Metric 16777215),.int .u32 c1.Tag]) (aw (v':=.ptr 3 0) (zj:=[(0,.box (zz.c x0)),(1,.box (qj.c c1)),(2,.box [.int .u32 0,.int .i64 0,.int .i64 0,.int .i64 0,.int .i64 0,.int .i64 0,.int .u32 0,.bool false,.int .i64 0,.nils]),(3,.box [.int .u32 0,.int .i64 0,.int .i64 0,.int .i64 0,.int .u32 0])]) (zk:=4) rfl rfl rfl rfl rfl rfl rfl (ay (zj:=[(0,.box (zz.c x0)),(1,.box (qj.c c1)),(2,.box [.int .u32 0,.int .i64 0,.int .i64 0,.int .i64 0,.int .i64 0,.int .i64 0,.int .u32 0,.bool false,.int .i64 0,.nils]),(3,.box [.int .u32 c1.P.A,.int .i64 c1.P.N,.int .i64 c1.Proto,.int .i64 (min_ c1.Metric 16777215),.int .u32 c1.Tag])]) (zk:=4) rfl rfl rfl rfl rfl (aa (ak (ah qv (ae (.ptr 0 2) (ae (.ro 12 (x0.Map.map zx.c)) (ae (.agg [.int .u32 c1.P.A,.int .i64 c1.P.N,.int .i64 c1.Proto,.int .i64 (min_ c1.Metric 16777215),.int .u32 c1.Tag]) ?_))))))))))
 generalize hc24:F88 x0.Map (⟨c1.P,c1.Proto,min_ c1.Metric 16777215,c1.Tag⟩ : zq) = c24 at hR
 obtain ⟨c24a,c24b,c24c⟩:=c24; try dsimp only at hR
 refine av (r:=.tup [.agg (zq.c c24a),.bool c24b,.int .i64 c24c]) rfl rfl rfl (f88_ok x0.Map (⟨c1.P,c1.Proto,min_ c1.Metric 16777215,c1.Tag⟩ : zq) _ hc24) rfl rfl (af rfl (ae (.agg (zq.c c24a)) (ae (.bool c24b) (ae (.int .i64 c24c) (aw (v':=.ptr 4 0) (zj:=[(0,.box (zz.c x0)),(1,.box (qj.c c1)),(2,.box [.int .u32 0,.int .i64 0,.int .i64 0,.int .i64 0,.int .i64 0,.int .i64 0,.int .u32 0,.bool false,.int .i64 0,.nils]),(3,.box [.int .u32 c1.P.A,.int .i64 c1.P.N,.int .i64 c1.Proto,.int .i64 (min_ c1.Metric 16777215),.int .u32 c1.Tag]),(4,.box [.int .u32 0,.int .i64 0,.int .i64 0,.int .i64 0,.int .u32 0])]) (zk:=5) rfl rfl rfl rfl rfl rfl rfl (ay (zj:=[(0,.box (zz.c x0)),(1,.box (qj.c c1)),(2,.box [.int .u32 0,.int .i64 0,.int .i64 0,.int .i64 0,.int .i64 0,.int .i64 0,.int .u32 0,.bool false,.int .i64 0,.nils]),(3,.box [.int .u32 c1.P.A,.int .i64 c1.P.N,.int .i64 c1.Proto,.int .i64 (min_ c1.Metric 16777215),.int .u32 c1.Tag]),(4,.box (zq.c c24a))]) (zk:=5) rfl rfl rfl rfl rfl (af rfl (af rfl (aa (ah qv (ae (.ptr 1 7) (ae (.bool c1.Leaked) (af rfl ?_)))))))))))))
 rcases qq (c1.Leaked) with hb1 | hb1
 ·rw [hb1]; first | replace hR:=kw hb1 hR | (try simp only [hb1,bb] at hR)
  refine af rfl (ae (.bool (!c24b)) (ae (.bool (!c24b)) (aa ?_)))
  rcases qq (c24b) with hb2 | hb2
  ·rw [hb2]; first | replace hR:=kw hb2 hR | (try simp only [hb2,bb] at hR)
   refine ap rfl (ah qv (ae (.agg [.int .u32 0,.int .i64 0,.int .i64 0,.int .i64 0,.int .i64 0,.int .i64 0,.int .u32 0,.bool false,.int .i64 0,.nils]) (ay (zj:=[(0,.box (zz.c x0)),(1,.box (qj.c c1)),(2,.box [.int .u32 0,.int .i64 0,.int .i64 0,.int .i64 0,.int .i64 0,.int .i64 0,.int .u32 0,.bool false,.int .i64 0,.nils]),(3,.box [.int .u32 c1.P.A,.int .i64 c1.P.N,.int .i64 c1.Proto,.int .i64 (min_ c1.Metric 16777215),.int .u32 c1.Tag]),(4,.box (zq.c c24a))]) (zk:=5) rfl rfl rfl rfl rfl (af rfl (aa (aj ?_))))))
   obtain rfl:=Option.some.inj hR
   exact cL [] (.inr rfl) rfl rfl rfl (.tup (.cons (.agg (.cons .refl (.cons .refl (.cons .refl (.cons .refl (.cons .refl (.cons .refl (.cons .refl (.cons .refl (.cons .refl (.cons .nil .refl))))))))))) .refl))
  ·rw [hb2]; first | replace hR:=kz hb2 hR | (try simp only [hb2,bb] at hR)
   refine aq rfl (aA (ak (aE qv (au (.ptr 0 0) (au (.int .i64 x0.From) (au (.ptr 1 7) (aV (zj:=[(0,.box (zz.c x0)),(1,.box [.int .u32 c1.P.A,.int .i64 c1.P.N,.int .i64 c1.Proto,.int .i64 c1.Inst,.int .i64 c1.Dist,.int .i64 c1.Metric,.int .u32 c1.Tag,.bool true,.int .i64 c1.From,.ro 2 (c1.Hops.map THop.c)]),(2,.box [.int .u32 0,.int .i64 0,.int .i64 0,.int .i64 0,.int .i64 0,.int .i64 0,.int .u32 0,.bool false,.int .i64 0,.nils]),(3,.box [.int .u32 c1.P.A,.int .i64 c1.P.N,.int .i64 c1.Proto,.int .i64 (min_ c1.Metric 16777215),.int .u32 c1.Tag]),(4,.box (zq.c c24a))]) (zk:=5) rfl rfl rfl rfl rfl (au (.ptr 1 8) (aV (zj:=[(0,.box (zz.c x0)),(1,.box [.int .u32 c1.P.A,.int .i64 c1.P.N,.int .i64 c1.Proto,.int .i64 c1.Inst,.int .i64 c1.Dist,.int .i64 c1.Metric,.int .u32 c1.Tag,.bool true,.int .i64 x0.From,.ro 2 (c1.Hops.map THop.c)]),(2,.box [.int .u32 0,.int .i64 0,.int .i64 0,.int .i64 0,.int .i64 0,.int .i64 0,.int .u32 0,.bool false,.int .i64 0,.nils]),(3,.box [.int .u32 c1.P.A,.int .i64 c1.P.N,.int .i64 c1.Proto,.int .i64 (min_ c1.Metric 16777215),.int .u32 c1.Tag]),(4,.box (zq.c c24a))]) (zk:=5) rfl rfl rfl rfl rfl (aH rfl (ah qv (ae (.agg [.int .u32 c1.P.A,.int .i64 c1.P.N,.int .i64 c1.Proto,.int .i64 c1.Inst,.int .i64 c1.Dist,.int .i64 c1.Metric,.int .u32 c1.Tag,.bool true,.int .i64 x0.From,.ro 2 (c1.Hops.map THop.c)]) (ay (zj:=[(0,.box (zz.c x0)),(1,.box [.int .u32 c1.P.A,.int .i64 c1.P.N,.int .i64 c1.Proto,.int .i64 c1.Inst,.int .i64 c1.Dist,.int .i64 c1.Metric,.int .u32 c1.Tag,.bool true,.int .i64 x0.From,.ro 2 (c1.Hops.map THop.c)]),(2,.box [.int .u32 c1.P.A,.int .i64 c1.P.N,.int .i64 c1.Proto,.int .i64 c1.Inst,.int .i64 c1.Dist,.int .i64 c1.Metric,.int .u32 c1.Tag,.bool true,.int .i64 x0.From,.ro 2 (c1.Hops.map THop.c)]),(3,.box [.int .u32 c1.P.A,.int .i64 c1.P.N,.int .i64 c1.Proto,.int .i64 (min_ c1.Metric 16777215),.int .u32 c1.Tag]),(4,.box (zq.c c24a))]) (zk:=5) rfl rfl rfl rfl rfl ?_)))))))))))))
   refine af rfl (aa (aj ?_))
   obtain rfl:=Option.some.inj hR
   exact ai [] (.inr rfl) rfl rfl rfl rfl
 ·rw [hb1]; first | replace hR:=kz hb1 hR | (try simp only [hb1,bb] at hR)
  refine ag rfl rfl (ag rfl rfl (ae (.bool true) (aa (ap rfl (ah qv (ae (.agg [.int .u32 0,.int .i64 0,.int .i64 0,.int .i64 0,.int .i64 0,.int .i64 0,.int .u32 0,.bool false,.int .i64 0,.nils]) (ay (zj:=[(0,.box (zz.c x0)),(1,.box (qj.c c1)),(2,.box [.int .u32 0,.int .i64 0,.int .i64 0,.int .i64 0,.int .i64 0,.int .i64 0,.int .u32 0,.bool false,.int .i64 0,.nils]),(3,.box [.int .u32 c1.P.A,.int .i64 c1.P.N,.int .i64 c1.Proto,.int .i64 (min_ c1.Metric 16777215),.int .u32 c1.Tag]),(4,.box (zq.c c24a))]) (zk:=5) rfl rfl rfl rfl rfl (af rfl (aa (aj ?_))))))))))
  obtain rfl:=Option.some.inj hR
  exact cL [] (.inr rfl) rfl rfl rfl (.tup (.cons (.agg (.cons .refl (.cons .refl (.cons .refl (.cons .refl (.cons .refl (.cons .refl (.cons .refl (.cons .refl (.cons .refl (.cons .nil .refl))))))))))) .refl))
theorem f56_ok (s10:List qj) (s21:List qj) (geq2:FuncId) (geq2f geq2c:List PVal) (heq2:qj → qj → Bool) (geq2k:PVal.closed.go geq2f = true ∧ PVal.closed.go geq2c = true) (geq2o : ∀ (y0:qj) (y1:qj) (R:Bool),heq2 y0 y1 = R → FnOk Tryz.prog geq2 (geq2f ++ [.agg (qj.c y0),.agg (qj.c y1)] ++ geq2c) [] 0 (.bool R) [] 0) (R:Bool) (hR:F56 s10 s21 heq2 = R):FnOk Tryz.prog 56 [.ro 10 (s10.map qj.c),.ro 10 (s21.map qj.c),.fn geq2 geq2f geq2c] [] 0 (.bool R) [] 0:=by
 refine FnOk.wk i56 rfl rfl ?_
 unfold F56 at hR
 change WK _ _ _ [ac56] _ ⟨[(0,.ro 10 (s10.map qj.c)),(1,.ro 10 (s21.map qj.c)),(2,.fn geq2 geq2f geq2c)],[],0⟩
 unfold ac56
 refine ah qv (af rfl (aa (ak (ah qv (af rfl (ar (v':=.int .i64 (s10.length:Int)) rfl rfl rfl rfl (ww _ _) (af rfl (ar (v':=.int .i64 (s21.length:Int)) rfl rfl rfl rfl (ww _ _) (ae (.bool (!decide ((s10.length:Int) = (s21.length:Int)))) (aa ?_))))))))))
 rcases qq (decide ((s10.length:Int) = (s21.length:Int))) with hb1 | hb1
 ·rw [hb1]; try simp only [hb1,bb] at hR
  refine ap rfl (ah qv (af rfl (aa (aj ?_))))
  subst hR
  exact ai [] (.inr rfl) rfl rfl rfl rfl
 ·rw [hb1]; try simp only [hb1,bb] at hR
  refine aq rfl (aA (ak (ah qv (af rfl (ar (v':=.int .i64 (s10.length:Int)) rfl rfl rfl rfl (ww _ _) (af rfl (aa ?_)))))))
  refine bq (t:=0) rfl (by simp) (fun ge2=>?_)
  rw [List.length_map] at ge2
  generalize gi2:F56l1 s21 heq2 0 s10 = gh2 at hR
  refine aY (fun k s=>∃ (i17:Nat),i17 ≤ s10.length ∧ k = s10.length - i17 ∧ F56l1 s21 heq2 i17 (s10.drop i17) = gh2 ∧ s = ⟨[(1,.ro 10 (s21.map qj.c)),(2,.fn geq2 geq2f geq2c),(15,.ro 10 (s10.map qj.c)),(16,.int .i64 (s10.length:Int)),(17,.int .i64 (i17:Int))],[],0⟩) s10.length (by refine ⟨_,?_,0,(by omega),rfl,gi2,rfl⟩; exact Conv.keep [] [] [1,2,15,16,17] rfl rfl (qx rfl rfl (qx rfl (aM geq2k) (qx rfl rfl (qx rfl rfl (qx rfl rfl qy))))) rfl rfl) ?_
  rintro _ _ ⟨i17,gj2,rfl,gg2,rfl⟩ gb2 gd2 gk2 ga2 gc2 gf2
  refine ah qv (ae (.bool (decide ((i17:Int) < (s10.length:Int)))) (aa (ak ?_)))
  rcases qq (decide ((i17:Int) < (s10.length:Int))) with hb3 | hb3
  ·rw [hb3]
   rw [bc hb3,F56l1] at gg2
   refine aq rfl (aT ?_)
   refine aU (gc2 _ ?_)
   subst gg2
   try dsimp only [cond_true,cond_false] at hR
   refine ah qv (af rfl (aa (aj ?_)))
   subst hR
   exact ai [] (.inr rfl) rfl rfl rfl rfl
  ·rw [hb3]
   obtain ⟨x17,hx2,hd2,hlt2⟩:=aR hb3
   rw [hd2,F56l1] at gg2
   refine ap rfl (aA (ak ?_))
   refine aI (fun _ hK4=>?_)
   refine ah qv (af rfl (aZ (c:=qj.c) (x:=x17) rfl rfl rfl (Int.natCast_nonneg _) hx2 (ae (.agg (qj.c x17)) (aw (v':=.ptr 0 0) (zj:=[(0,.box [.int .u32 0,.int .i64 0,.int .i64 0,.int .i64 0,.int .i64 0,.int .i64 0,.int .u32 0,.bool false,.int .i64 0,.nils])]) (zk:=1) rfl rfl rfl rfl rfl rfl rfl (af rfl (ay (zj:=[(0,.box (qj.c x17))]) (zk:=1) rfl rfl rfl rfl rfl (aa (ah qv (af rfl (af rfl (aZ (c:=qj.c) (x:=(s21.getD i17 default)) rfl rfl rfl (Int.natCast_nonneg _) (cC (by ((try simp only [decide_eq_true_eq,decide_eq_false_iff_not,Bool.not_eq_true,Bool.not_eq_false] at *); first | omega | (rw [aW (by omega) (by omega)]; omega) | (unfold min_ max_; (repeat' split) <;> first | omega | (rw [aW (by omega) (by omega)]; omega))))) (ae (.agg [.int .u32 (((s21.getD i17 default).P).A),.int .i64 (((s21.getD i17 default).P).N),.int .i64 ((s21.getD i17 default).Proto),.int .i64 ((s21.getD i17 default).Inst),.int .i64 ((s21.getD i17 default).Dist),.int .i64 ((s21.getD i17 default).Metric),.int .u32 ((s21.getD i17 default).Tag),.bool ((s21.getD i17 default).Leaked),.int .i64 ((s21.getD i17 default).From),.ro 2 (((s21.getD i17 default).Hops).map THop.c)]) (aw (v':=.ptr 1 0) (zj:=[(0,.box (qj.c x17)),(1,.box [.int .u32 0,.int .i64 0,.int .i64 0,.int .i64 0,.int .i64 0,.int .i64 0,.int .u32 0,.bool false,.int .i64 0,.nils])]) (zk:=2) rfl rfl rfl rfl rfl rfl rfl ?_)))))))))))))
   refine ay (zj:=[(0,.box (qj.c x17)),(1,.box [.int .u32 (((s21.getD i17 default).P).A),.int .i64 (((s21.getD i17 default).P).N),.int .i64 ((s21.getD i17 default).Proto),.int .i64 ((s21.getD i17 default).Inst),.int .i64 ((s21.getD i17 default).Dist),.int .i64 ((s21.getD i17 default).Metric),.int .u32 ((s21.getD i17 default).Tag),.bool ((s21.getD i17 default).Leaked),.int .i64 ((s21.getD i17 default).From),.ro 2 (((s21.getD i17 default).Hops).map THop.c)])]) (zk:=2) rfl rfl rfl rfl rfl (aa (ah qv (af rfl (ae (.agg (qj.c x17)) (ae (.agg [.int .u32 (((s21.getD i17 default).P).A),.int .i64 (((s21.getD i17 default).P).N),.int .i64 ((s21.getD i17 default).Proto),.int .i64 ((s21.getD i17 default).Inst),.int .i64 ((s21.getD i17 default).Dist),.int .i64 ((s21.getD i17 default).Metric),.int .u32 ((s21.getD i17 default).Tag),.bool ((s21.getD i17 default).Leaked),.int .i64 ((s21.getD i17 default).From),.ro 2 (((s21.getD i17 default).Hops).map THop.c)]) ?_)))))
   generalize hc29:heq2 x17 (⟨((s21.getD i17 default).P),(s21.getD i17 default).Proto,(s21.getD i17 default).Inst,(s21.getD i17 default).Dist,(s21.getD i17 default).Metric,(s21.getD i17 default).Tag,(s21.getD i17 default).Leaked,(s21.getD i17 default).From,(s21.getD i17 default).Hops⟩ : qj) = c29 at gg2
   try dsimp only at gg2
   refine cd (r:=.bool c29) rfl rfl rfl (geq2o x17 (⟨((s21.getD i17 default).P),(s21.getD i17 default).Proto,(s21.getD i17 default).Inst,(s21.getD i17 default).Dist,(s21.getD i17 default).Metric,(s21.getD i17 default).Tag,(s21.getD i17 default).Leaked,(s21.getD i17 default).From,(s21.getD i17 default).Hops⟩ : qj) _ hc29) (closed3 geq2k.1 rfl geq2k.2) rfl (ae (.bool (!c29)) (aa ?_))
   rcases qq (c29) with hb5 | hb5
   ·rw [hb5]; try simp only [hb5,bb] at gg2
    refine ap rfl (ah qv (af rfl (aa (aj (aS ?_)))))
    refine aS (gf2 _ _ ?_)
    subst gg2
    subst hR
    exact ai [] (.inr rfl) rfl rfl rfl rfl
   ·rw [hb5]; try simp only [hb5,bb] at gg2
    refine aq rfl (aA ?_)
    refine aB (am (hK4 _ ?_))
    refine az qv (ar (v':=.int .i64 ((i17 + 1:Nat):Int)) rfl rfl rfl rfl (congrArg (PVal.int .i64) (aO hlt2 ge2)) (af rfl (aa ?_)))
    refine aB (am ?_)
    refine ga2 _ (s10.length - (i17 + 1)) _ (by omega) ?_ ⟨i17 + 1,(by omega),rfl,gg2,rfl⟩
    exact Conv.keep [] [] [1,2,15,16,17] rfl rfl (qx rfl rfl (qx rfl (aM geq2k) (qx rfl rfl (qx rfl rfl (qx rfl rfl qy))))) rfl rfl
theorem f97_ok (s10:List THop) (s21:List THop) (R:Bool) (hR:F97 s10 s21 = R):FnOk Tryz.prog 97 [.ro 2 (s10.map THop.c),.ro 2 (s21.map THop.c)] [] 0 (.bool R) [] 0:=by
 refine FnOk.wk i97 rfl rfl ?_
 unfold F97 at hR
 change WK _ _ _ [ac97] _ ⟨[(0,.ro 2 (s10.map THop.c)),(1,.ro 2 (s21.map THop.c))],[],0⟩
 unfold ac97
 refine ah qv (af rfl (aa (ak (ah qv (af rfl (ar (v':=.int .i64 (s10.length:Int)) rfl rfl rfl rfl (ww _ _) (af rfl (ar (v':=.int .i64 (s21.length:Int)) rfl rfl rfl rfl (ww _ _) (ae (.bool (!decide ((s10.length:Int) = (s21.length:Int)))) (aa ?_))))))))))
 rcases qq (decide ((s10.length:Int) = (s21.length:Int))) with hb1 | hb1
 ·rw [hb1]; try simp only [hb1,bb] at hR
  refine ap rfl (ah qv (af rfl (aa (aj ?_))))
  subst hR
  exact ai [] (.inr rfl) rfl rfl rfl rfl
 ·rw [hb1]; try simp only [hb1,bb] at hR
  refine aq rfl (aA (ak (ah qv (af rfl (ar (v':=.int .i64 (s10.length:Int)) rfl rfl rfl rfl (ww _ _) (af rfl (aa ?_)))))))
  refine bq (t:=0) rfl (by simp) (fun ge2=>?_)
  rw [List.length_map] at ge2
  generalize gi2:F97l1 s21 0 s10 = gh2 at hR
  refine aY (fun k s=>∃ (i13:Nat),i13 ≤ s10.length ∧ k = s10.length - i13 ∧ F97l1 s21 i13 (s10.drop i13) = gh2 ∧ s = ⟨[(0,.ro 2 (s10.map THop.c)),(1,.ro 2 (s21.map THop.c)),(12,.int .i64 (s10.length:Int)),(13,.int .i64 (i13:Int))],[],0⟩) s10.length (by refine ⟨_,?_,0,(by omega),rfl,gi2,rfl⟩; exact Conv.keep [] [] [0,1,12,13] rfl rfl (qx rfl rfl (qx rfl rfl (qx rfl rfl (qx rfl rfl qy)))) rfl rfl) ?_
  rintro _ _ ⟨i13,gj2,rfl,gg2,rfl⟩ gb2 gd2 gk2 ga2 gc2 gf2
  refine ah qv (ae (.bool (decide ((i13:Int) < (s10.length:Int)))) (aa (ak ?_)))
  rcases qq (decide ((i13:Int) < (s10.length:Int))) with hb3 | hb3
  ·rw [hb3]
   rw [bc hb3,F97l1] at gg2
   refine aq rfl (aT ?_)
   refine aU (gc2 _ ?_)
   subst gg2
   try dsimp only [cond_true,cond_false] at hR
   refine ah qv (af rfl (aa (aj ?_)))
   subst hR
   exact ai [] (.inr rfl) rfl rfl rfl rfl
  ·rw [hb3]
   obtain ⟨x13,hx2,hd2,hlt2⟩:=aR hb3
   rw [hd2,F97l1] at gg2
   refine ap rfl (aA (ak ?_))
   refine aI (fun _ hK4=>?_)
   refine ah qv (af rfl (af rfl (aa (ak (aE qv (aG rfl (aG rfl (bn (c:=THop.c) (x:=x13) rfl rfl rfl (Int.natCast_nonneg _) hx2 (au (.agg (THop.c x13)) (aG rfl (aG rfl (bn (c:=THop.c) (x:=(s21.getD i13 default)) rfl rfl rfl (Int.natCast_nonneg _) (cC (by ((try simp only [decide_eq_true_eq,decide_eq_false_iff_not,Bool.not_eq_true,Bool.not_eq_false] at *); first | omega | (rw [aW (by omega) (by omega)]; omega) | (unfold min_ max_; (repeat' split) <;> first | omega | (rw [aW (by omega) (by omega)]; omega))))) (au (.agg [.int .i64 ((s21.getD i13 default).Iface),.int .u32 ((s21.getD i13 default).Gate)]) ?_)))))))))))))
   refine au (.bool (!(decide (x13.Iface = (s21.getD i13 default).Iface) && (decide (x13.Gate = (s21.getD i13 default).Gate) && true)))) (aH rfl ?_)
   rcases qq (decide (x13.Iface = (s21.getD i13 default).Iface) && (decide (x13.Gate = (s21.getD i13 default).Gate) && true)) with hb5 | hb5
   ·rw [hb5]; try simp only [hb5,bb] at gg2
    refine ap rfl (ah qv (af rfl (aa (aj (aS ?_)))))
    refine aS (gf2 _ _ ?_)
    subst gg2
    subst hR
    exact ai [] (.inr rfl) rfl rfl rfl rfl
   ·rw [hb5]; try simp only [hb5,bb] at gg2
    refine aq rfl (aA ?_)
    refine aB (am (hK4 _ ?_))
    refine az qv (ar (v':=.int .i64 ((i13 + 1:Nat):Int)) rfl rfl rfl rfl (congrArg (PVal.int .i64) (aO hlt2 ge2)) (af rfl (aa ?_)))
    refine aB (am ?_)
    refine ga2 _ (s10.length - (i13 + 1)) _ (by omega) ?_ ⟨i13 + 1,(by omega),rfl,gg2,rfl⟩
    exact Conv.keep [] [] [0,1,12,13] rfl rfl (qx rfl rfl (qx rfl rfl (qx rfl rfl (qx rfl rfl qy)))) rfl rfl
theorem f57_ok (a0:qj) (b1:qj) (R:Bool) (hR:F57 a0 b1 = R):FnOk Tryz.prog 57 [.agg (qj.c a0),.agg (qj.c b1)] [] 0 (.bool R) [] 0:=by
 refine FnOk.wk i57 rfl rfl ?_
 unfold F57 at hR
 change WK _ _ _ [ac57] _ ⟨[(0,.agg (qj.c a0)),(1,.agg (qj.c b1))],[],0⟩
 unfold ac57
 refine ah qv (aw (v':=.ptr 0 0) (zj:=[(0,.box (qj.c a0))]) (zk:=1) rfl rfl rfl rfl rfl rfl rfl (aw (v':=.ptr 1 0) (zj:=[(0,.box (qj.c a0)),(1,.box (qj.c b1))]) (zk:=2) rfl rfl rfl rfl rfl rfl rfl (af rfl (aa (ah qv (ae (.ptr 0 9) (ae (.ro 2 (a0.Hops.map THop.c)) (ae (.ptr 1 9) (ae (.ro 2 (b1.Hops.map THop.c)) ?_)))))))))
 generalize hc11:F97 a0.Hops b1.Hops = c11 at hR
 try dsimp only at hR
 refine av (r:=.bool c11) rfl rfl rfl (f97_ok a0.Hops b1.Hops _ hc11) rfl rfl (af rfl (aa (ah qv (ae (.ptr 0 9) (ay (zj:=[(0,.box [.int .u32 a0.P.A,.int .i64 a0.P.N,.int .i64 a0.Proto,.int .i64 a0.Inst,.int .i64 a0.Dist,.int .i64 a0.Metric,.int .u32 a0.Tag,.bool a0.Leaked,.int .i64 a0.From,.nils]),(1,.box (qj.c b1))]) (zk:=2) rfl rfl rfl rfl rfl (ae (.ptr 1 9) (ay (zj:=[(0,.box [.int .u32 a0.P.A,.int .i64 a0.P.N,.int .i64 a0.Proto,.int .i64 a0.Inst,.int .i64 a0.Dist,.int .i64 a0.Metric,.int .u32 a0.Tag,.bool a0.Leaked,.int .i64 a0.From,.nils]),(1,.box [.int .u32 b1.P.A,.int .i64 b1.P.N,.int .i64 b1.Proto,.int .i64 b1.Inst,.int .i64 b1.Dist,.int .i64 b1.Metric,.int .u32 b1.Tag,.bool b1.Leaked,.int .i64 b1.From,.nils])]) (zk:=2) rfl rfl rfl rfl rfl (aa (ah qv (ae (.ptr 0 0) (ae (.agg (zy.c a0.P)) (ae (.ptr 1 0) (ae (.agg (zy.c b1.P)) ?_)))))))))))))
 refine ae (.bool (decide (a0.P.A = b1.P.A) && (decide (a0.P.N = b1.P.N) && true))) (af rfl ?_)
 rcases qq ((decide (a0.P.A = b1.P.A) && (decide (a0.P.N = b1.P.N) && true))) with hb1 | hb1
 ·rw [hb1]; try simp only [hb1,bb] at hR
  iterate 5 refine ag rfl rfl ?_
  refine ae (.bool false) (af rfl ?_)
  iterate 5 refine ag rfl rfl ?_
  refine ae (.bool false) (af rfl ?_)
  iterate 5 refine ag rfl rfl ?_
  refine ae (.bool false) (af rfl ?_)
  iterate 5 refine ag rfl rfl ?_
  refine ae (.bool false) (af rfl ?_)
  iterate 5 refine ag rfl rfl ?_
  refine ae (.bool false) (af rfl ?_)
  iterate 5 refine ag rfl rfl ?_
  refine ae (.bool false) (af rfl ?_)
  iterate 5 refine ag rfl rfl ?_
  refine ae (.bool false) (af rfl (aa (ah qv (af rfl (af rfl ?_)))))
  rcases qq (c11) with hb2 | hb2
  ·rw [hb2]; try simp only [hb2,bb] at hR
   refine ag rfl rfl (ae (.bool false) (af rfl (aa (aj ?_))))
   subst hR
   exact ai [] (.inr rfl) rfl rfl rfl rfl
  ·rw [hb2]; try simp only [hb2,bb] at hR
   refine af rfl (ae (.bool false) (af rfl (aa (aj ?_))))
   subst hR
   exact ai [] (.inr rfl) rfl rfl rfl rfl
 ·rw [hb1]; try simp only [hb1,bb] at hR
  refine ae (.ptr 0 2) (ae (.int .i64 a0.Proto) (ae (.ptr 1 2) (ae (.int .i64 b1.Proto) (ae (.bool (decide (a0.Proto = b1.Proto))) (ae (.bool (decide (a0.Proto = b1.Proto))) (af rfl ?_))))))
  rcases qq (decide (a0.Proto = b1.Proto)) with hb3 | hb3
  ·rw [hb3]; try simp only [hb3,bb] at hR
   iterate 5 refine ag rfl rfl ?_
   refine ae (.bool false) (af rfl ?_)
   iterate 5 refine ag rfl rfl ?_
   refine ae (.bool false) (af rfl ?_)
   iterate 5 refine ag rfl rfl ?_
   refine ae (.bool false) (af rfl ?_)
   iterate 5 refine ag rfl rfl ?_
   refine ae (.bool false) (af rfl ?_)
   iterate 5 refine ag rfl rfl ?_
   refine ae (.bool false) (af rfl ?_)
   iterate 5 refine ag rfl rfl ?_
   refine ae (.bool false) (af rfl (aa (ah qv (af rfl (af rfl ?_)))))
   rcases qq (c11) with hb4 | hb4
   ·rw [hb4]; try simp only [hb4,bb] at hR
    refine ag rfl rfl (ae (.bool false) (af rfl (aa (aj ?_))))
    subst hR
    exact ai [] (.inr rfl) rfl rfl rfl rfl
   ·rw [hb4]; try simp only [hb4,bb] at hR
    refine af rfl (ae (.bool false) (af rfl (aa (aj ?_))))
    subst hR
    exact ai [] (.inr rfl) rfl rfl rfl rfl
  ·rw [hb3]; try simp only [hb3,bb] at hR
   refine ae (.ptr 0 3) (ae (.int .i64 a0.Inst) (ae (.ptr 1 3) (ae (.int .i64 b1.Inst) (ae (.bool (decide (a0.Inst = b1.Inst))) (ae (.bool (decide (a0.Inst = b1.Inst))) (af rfl ?_))))))
   rcases qq (decide (a0.Inst = b1.Inst)) with hb5 | hb5
   ·rw [hb5]; try simp only [hb5,bb] at hR
    iterate 5 refine ag rfl rfl ?_
    refine ae (.bool false) (af rfl ?_)
    iterate 5 refine ag rfl rfl ?_
    refine ae (.bool false) (af rfl ?_)
    iterate 5 refine ag rfl rfl ?_
    refine ae (.bool false) (af rfl ?_)
    iterate 5 refine ag rfl rfl ?_
    refine ae (.bool false) (af rfl ?_)
    iterate 5 refine ag rfl rfl ?_
    refine ae (.bool false) (af rfl (aa (ah qv (af rfl (af rfl ?_)))))
    rcases qq (c11) with hb6 | hb6
    ·rw [hb6]; try simp only [hb6,bb] at hR
     refine ag rfl rfl (ae (.bool false) (af rfl (aa (aj ?_))))
     subst hR
     exact ai [] (.inr rfl) rfl rfl rfl rfl
    ·rw [hb6]; try simp only [hb6,bb] at hR
     refine af rfl (ae (.bool false) (af rfl (aa (aj ?_))))
     subst hR
     exact ai [] (.inr rfl) rfl rfl rfl rfl
   ·rw [hb5]; try simp only [hb5,bb] at hR
    refine ae (.ptr 0 4) (ae (.int .i64 a0.Dist) (ae (.ptr 1 4) (ae (.int .i64 b1.Dist) (ae (.bool (decide (a0.Dist = b1.Dist))) (ae (.bool (decide (a0.Dist = b1.Dist))) (af rfl ?_))))))
    rcases qq (decide (a0.Dist = b1.Dist)) with hb7 | hb7
    ·rw [hb7]; try simp only [hb7,bb] at hR
     iterate 5 refine ag rfl rfl ?_
     refine ae (.bool false) (af rfl ?_)
     iterate 5 refine ag rfl rfl ?_
     refine ae (.bool false) (af rfl ?_)
     iterate 5 refine ag rfl rfl ?_
     refine ae (.bool false) (af rfl ?_)
     iterate 5 refine ag rfl rfl ?_
     refine ae (.bool false) (af rfl (aa (ah qv (af rfl (af rfl ?_)))))
     rcases qq (c11) with hb8 | hb8
     ·rw [hb8]; try simp only [hb8,bb] at hR
      refine ag rfl rfl (ae (.bool false) (af rfl (aa (aj ?_))))
      subst hR
      exact ai [] (.inr rfl) rfl rfl rfl rfl
     ·rw [hb8]; try simp only [hb8,bb] at hR
      refine af rfl (ae (.bool false) (af rfl (aa (aj ?_))))
      subst hR
      exact ai [] (.inr rfl) rfl rfl rfl rfl
    ·rw [hb7]; try simp only [hb7,bb] at hR
     refine ae (.ptr 0 5) (ae (.int .i64 a0.Metric) (ae (.ptr 1 5) (ae (.int .i64 b1.Metric) (ae (.bool (decide (a0.Metric = b1.Metric))) (ae (.bool (decide (a0.Metric = b1.Metric))) (af rfl ?_))))))
     rcases qq (decide (a0.Metric = b1.Metric)) with hb9 | hb9
     ·rw [hb9]; try simp only [hb9,bb] at hR
      iterate 5 refine ag rfl rfl ?_
      refine ae (.bool false) (af rfl ?_)
      iterate 5 refine ag rfl rfl ?_
      refine ae (.bool false) (af rfl ?_)
      iterate 5 refine ag rfl rfl ?_
      refine ae (.bool false) (af rfl (aa (ah qv (af rfl (af rfl ?_)))))
      rcases qq (c11) with hb10 | hb10
      ·rw [hb10]; try simp only [hb10,bb] at hR
       refine ag rfl rfl (ae (.bool false) (af rfl (aa (aj ?_))))
       subst hR
       exact ai [] (.inr rfl) rfl rfl rfl rfl
      ·rw [hb10]; try simp only [hb10,bb] at hR
       refine af rfl (ae (.bool false) (af rfl (aa (aj ?_))))
       subst hR
       exact ai [] (.inr rfl) rfl rfl rfl rfl
     ·rw [hb9]; try simp only [hb9,bb] at hR
      refine ae (.ptr 0 6) (ae (.int .u32 a0.Tag) (ae (.ptr 1 6) (ae (.int .u32 b1.Tag) (ae (.bool (decide (a0.Tag = b1.Tag))) (ae (.bool (decide (a0.Tag = b1.Tag))) (af rfl ?_))))))
      rcases qq (decide (a0.Tag = b1.Tag)) with hb11 | hb11
      ·rw [hb11]; try simp only [hb11,bb] at hR
       iterate 5 refine ag rfl rfl ?_
       refine ae (.bool false) (af rfl ?_)
       iterate 5 refine ag rfl rfl ?_
       refine ae (.bool false) (af rfl (aa (ah qv (af rfl (af rfl ?_)))))
       rcases qq (c11) with hb12 | hb12
       ·rw [hb12]; try simp only [hb12,bb] at hR
        refine ag rfl rfl (ae (.bool false) (af rfl (aa (aj ?_))))
        subst hR
        exact ai [] (.inr rfl) rfl rfl rfl rfl
       ·rw [hb12]; try simp only [hb12,bb] at hR
        refine af rfl (ae (.bool false) (af rfl (aa (aj ?_))))
        subst hR
        exact ai [] (.inr rfl) rfl rfl rfl rfl
      ·rw [hb11]; try simp only [hb11,bb] at hR
       refine ae (.ptr 0 7) (ae (.bool a0.Leaked) (ae (.ptr 1 7) (ae (.bool b1.Leaked) (ae (.bool (a0.Leaked == b1.Leaked)) (ae (.bool (a0.Leaked == b1.Leaked)) (af rfl ?_))))))
       rcases qq ((a0.Leaked == b1.Leaked)) with hb13 | hb13
       ·rw [hb13]; try simp only [hb13,bb] at hR
        iterate 5 refine ag rfl rfl ?_
        refine ae (.bool false) (af rfl (aa (ah qv (af rfl (af rfl ?_)))))
        rcases qq (c11) with hb14 | hb14
        ·rw [hb14]; try simp only [hb14,bb] at hR
         refine ag rfl rfl (ae (.bool false) (af rfl (aa (aj ?_))))
         subst hR
         exact ai [] (.inr rfl) rfl rfl rfl rfl
        ·rw [hb14]; try simp only [hb14,bb] at hR
         refine af rfl (ae (.bool false) (af rfl (aa (aj ?_))))
         subst hR
         exact ai [] (.inr rfl) rfl rfl rfl rfl
       ·rw [hb13]; try simp only [hb13,bb] at hR
        refine ae (.ptr 0 8) (ae (.int .i64 a0.From) (ae (.ptr 1 8) (ae (.int .i64 b1.From) (ae (.bool (decide (a0.From = b1.From))) (ae (.bool (decide (a0.From = b1.From))) (af rfl (aa (ah qv (af rfl (af rfl ?_))))))))))
        rcases qq (c11) with hb15 | hb15
        ·rw [hb15]; try simp only [hb15,bb] at hR
         refine ag rfl rfl (ae (.bool false) (af rfl (aa (aj ?_))))
         subst hR
         exact ai [] (.inr rfl) rfl rfl rfl rfl
        ·rw [hb15]; try simp only [hb15,bb] at hR
         refine af rfl (ae (.bool (decide (a0.From = b1.From))) (af rfl (aa (aj ?_))))
         subst hR
         exact ai [] (.inr rfl) rfl rfl rfl rfl
theorem f148_ok (t0:qk) (h1:THop) (R:THop × Bool) (hR:F148 t0 h1 = some R):FnOk Tryz.prog 148 [.agg (qk.c t0),.agg (THop.c h1)] [] 0 (.tup [.agg (THop.c R.1),.bool R.2]) [] 0:=by
 refine FnOk.wk i148 rfl rfl ?_
 unfold F148 at hR
 try dsimp only at hR
 change WK _ _ _ [ac148] _ ⟨[(0,.agg (qk.c t0)),(1,.agg (THop.c h1))],[],0⟩
 unfold ac148
 refine ah qv (aw (v':=.ptr 0 0) (zj:=[(0,.box (qk.c t0))]) (zk:=1) rfl rfl rfl rfl rfl rfl rfl (aw (v':=.ptr 1 0) (zj:=[(0,.box (qk.c t0)),(1,.box (THop.c h1))]) (zk:=2) rfl rfl rfl rfl rfl rfl rfl (aw (v':=.ptr 2 0) (zj:=[(0,.box (qk.c t0)),(1,.box (THop.c h1)),(2,.box [.int .i64 0,.int .u32 0])]) (zk:=3) rfl rfl rfl rfl rfl rfl rfl (af rfl (aa (ak (ah qv (ae (.ptr 1 1) (ae (.int .u32 h1.Gate) (ae (.bool (decide (h1.Gate = 0))) (aa ?_)))))))))))
 rcases qq (decide (h1.Gate = 0)) with hb1 | hb1
 ·rw [hb1]; first | replace hR:=kw hb1 hR | (try simp only [hb1,bb] at hR)
  refine aq rfl (aA (ah qv (af rfl (aa (ak (ah qv (ae (.ptr 0 0) (ae (.ro 10 (t0.L.map qj.c)) (ar (v':=.int .i64 (t0.L.length:Int)) rfl rfl rfl rfl (ww _ _) (af rfl (aa ?_)))))))))))
  refine bq (t:=14) rfl (by simp) (fun ge8=>?_)
  rw [List.length_map] at ge8
  generalize gi8:F148l1 t0 h1 (-1) 0 t0.L = gh8 at hR
  refine aY (fun k s=>∃ (i16:Nat) (at6:Int),i16 ≤ t0.L.length ∧ k = t0.L.length - i16 ∧ F148l1 t0 h1 at6 i16 (t0.L.drop i16) = gh8 ∧ s = ⟨[(2,.ptr 0 0),(3,.ptr 1 0),(4,.ptr 2 0),(6,.int .i64 at6),(14,.ro 10 (t0.L.map qj.c)),(15,.int .i64 (t0.L.length:Int)),(16,.int .i64 (i16:Int))],[(0,.box (qk.c t0)),(1,.box (THop.c h1)),(2,.box [.int .i64 0,.int .u32 0])],3⟩) t0.L.length (by refine ⟨_,?_,0,(-1),(by omega),rfl,gi8,rfl⟩; exact Conv.keep [0,1,2] [] [2,3,4,6,14,15,16] rfl rfl (qx rfl rfl (qx rfl rfl (qx rfl rfl (qx rfl rfl (qx rfl rfl (qx rfl rfl (qx rfl rfl qy))))))) rfl rfl) ?_
  rintro _ _ ⟨i16,at6,gj8,rfl,gg8,rfl⟩ gb8 gd8 gk8 ga8 gc8 gf8
  refine ah qv (ae (.bool (decide ((i16:Int) < (t0.L.length:Int)))) (aa (ak ?_)))
  rcases qq (decide ((i16:Int) < (t0.L.length:Int))) with hb9 | hb9
  ·rw [hb9]
   rw [bc hb9,F148l1] at gg8
   refine aq rfl (aT ?_)
   refine aU (gc8 _ ?_)
   subst gg8
   replace hR:=be hR; try dsimp only at hR
   refine ak (ah qv (af rfl (ae (.bool (decide (at6 < 0))) (aa ?_))))
   rcases qq (decide (at6 < 0)) with hb10 | hb10
   ·rw [hb10]; first | replace hR:=kw hb10 hR | (try simp only [hb10,bb] at hR)
    refine aq rfl (aA (ak (aE qv (au (.ptr 0 0) (au (.ro 10 (t0.L.map qj.c)) (aG rfl ?_))))))
    obtain ⟨x910,hx910,hR⟩:=wx hR; try dsimp only at hR
    obtain ⟨hx9100,hx910j,hx910l,hx910⟩:=ky hx910
    refine bn (c:=qj.c) (x:=x910) rfl rfl rfl hx9100 hx910 (au (.rptr [.ro 2 (x910.Hops.map THop.c)]) (au (.ro 2 (x910.Hops.map THop.c)) ?_))
    obtain ⟨x911,hx911,hR⟩:=wx hR; try dsimp only at hR
    obtain ⟨hx9110,hx911j,hx911l,hx911⟩:=ky hx911
    refine bn (c:=THop.c) (x:=x911) rfl rfl rfl hx9110 hx911 (au (.rptr (THop.c x911)) (au (.int .i64 x911.Iface) (au (.ptr 1 1) (au (.int .u32 h1.Gate) (au (.agg [.int .i64 x911.Iface,.int .u32 h1.Gate]) (aV (zj:=[(0,.box (qk.c t0)),(1,.box (THop.c h1)),(2,.box [.int .i64 x911.Iface,.int .u32 h1.Gate])]) (zk:=3) rfl rfl rfl rfl rfl (aG rfl (aH rfl (aj ?_)))))))))
    obtain rfl:=Option.some.inj hR
    exact ai [] (.inr rfl) rfl rfl rfl rfl
   ·rw [hb10]; first | replace hR:=kz hb10 hR | (try simp only [hb10,bb] at hR)
    refine ap rfl (ah qv (ae (.agg [.int .i64 0,.int .u32 0]) (ay (zj:=[(0,.box (qk.c t0)),(1,.box (THop.c h1)),(2,.box [.int .i64 0,.int .u32 0])]) (zk:=3) rfl rfl rfl rfl rfl (af rfl (aa (aj ?_))))))
    obtain rfl:=Option.some.inj hR
    exact ai [] (.inr rfl) rfl rfl rfl rfl
  ·rw [hb9]
   obtain ⟨x16,hx8,hd8,hlt8⟩:=aR hb9
   rw [hd8,F148l1] at gg8
   refine ap rfl (aA (ak ?_))
   refine aI (fun _ hK13=>?_)
   refine ah qv (af rfl (aZ (c:=qj.c) (x:=x16) rfl rfl rfl (Int.natCast_nonneg _) hx8 (ae (.agg (qj.c x16)) (aw (v':=.ptr 3 0) (zj:=[(0,.box (qk.c t0)),(1,.box (THop.c h1)),(2,.box [.int .i64 0,.int .u32 0]),(3,.box [.int .u32 0,.int .i64 0,.int .i64 0,.int .i64 0,.int .i64 0,.int .i64 0,.int .u32 0,.bool false,.int .i64 0,.nils])]) (zk:=4) rfl rfl rfl rfl rfl rfl rfl (af rfl (ay (zj:=[(0,.box (qk.c t0)),(1,.box (THop.c h1)),(2,.box [.int .i64 0,.int .u32 0]),(3,.box (qj.c x16))]) (zk:=4) rfl rfl rfl rfl rfl (aa (ak (aE qv (au (.ptr 3 2) (au (.int .i64 x16.Proto) (au (.bool (decide (x16.Proto = 0))) (aG rfl ?_)))))))))))))
   rcases qq (decide (x16.Proto = 0)) with hb14 | hb14
   ·rw [hb14]; try simp only [hb14,bb] at gg8
    iterate 3 refine bE rfl rfl ?_
    refine au (.bool false) ?_
    refine aG rfl ?_
    iterate 5 refine bE rfl rfl ?_
    refine au (.bool false) (aG rfl ?_)
    iterate 15 refine bE rfl rfl ?_
    refine au (.bool false) (da [0,1,3,7,15,31,63,127,255,511,1023,511,2559,8191,16383,32767,65535,131071,262143,524287,1048575,2097151,524287,4718591,524287,29884415,63438847,130547711,264765439,536870911,1073741823,2147483647] (by kernel_rfl) (by kernel_rfl) (by kernel_rfl) (aq rfl (aA ?_)))
    refine aB (am (hK13 _ ?_))
    refine az qv (ar (v':=.int .i64 ((i16 + 1:Nat):Int)) rfl rfl rfl rfl (congrArg (PVal.int .i64) (aO hlt8 ge8)) (af rfl (aa ?_)))
    refine aB (am ?_)
    refine ga8 _ (t0.L.length - (i16 + 1)) _ (by omega) ?_ ⟨i16 + 1,at6,(by omega),rfl,gg8,rfl⟩
    exact Conv.keep [0,1,2] [] [2,3,4,6,14,15,16] rfl rfl (qx rfl rfl (qx rfl rfl (qx rfl rfl (qx rfl rfl (qx rfl rfl (qx rfl rfl (qx rfl rfl qy))))))) rfl rfl
   ·rw [hb14]; try simp only [hb14,bb] at gg8
    refine au (.ptr 3 7) (au (.bool x16.Leaked) (au (.bool (!x16.Leaked)) (au (.bool (!x16.Leaked)) (aG rfl ?_))))
    rcases qq (x16.Leaked) with hb15 | hb15
    ·rw [hb15]; try simp only [hb15,bb] at gg8
     refine au (.ptr 3 0) (au (.agg (zy.c x16.P)) (au (.ptr 1 1) (au (.int .u32 h1.Gate) ?_)))
     generalize hc34:F167 x16.P h1.Gate = c34 at gg8
     try dsimp only at gg8
     refine aL (r:=.bool c34) rfl rfl rfl (f167_ok x16.P h1.Gate _ hc34) rfl rfl (au (.bool c34) (aG rfl ?_))
     rcases qq (c34) with hb16 | hb16
     ·rw [hb16]; try simp only [hb16,bb] at gg8
      iterate 15 refine bE rfl rfl ?_
      refine au (.bool false) (da [0,1,3,7,15,31,63,127,255,511,1023,511,2559,8191,16383,32767,65535,131071,262143,524287,1048575,2097151,524287,4718591,524287,29884415,63438847,130547711,264765439,536870911,1073741823,2147483647] (by kernel_rfl) (by kernel_rfl) (by kernel_rfl) (aq rfl (aA ?_)))
      refine aB (am (hK13 _ ?_))
      refine az qv (ar (v':=.int .i64 ((i16 + 1:Nat):Int)) rfl rfl rfl rfl (congrArg (PVal.int .i64) (aO hlt8 ge8)) (af rfl (aa ?_)))
      refine aB (am ?_)
      refine ga8 _ (t0.L.length - (i16 + 1)) _ (by omega) ?_ ⟨i16 + 1,at6,(by omega),rfl,gg8,rfl⟩
      exact Conv.keep [0,1,2] [] [2,3,4,6,14,15,16] rfl rfl (qx rfl rfl (qx rfl rfl (qx rfl rfl (qx rfl rfl (qx rfl rfl (qx rfl rfl (qx rfl rfl qy))))))) rfl rfl
     ·rw [hb16]; try simp only [hb16,bb] at gg8
      refine aG rfl (au (.bool (decide (at6 < 0))) (aG rfl ?_))
      rcases qq (decide (at6 < 0)) with hb17 | hb17
      ·rw [hb17]; try simp only [hb17,bb] at gg8
       refine au (.ptr 3 0) (au (.ptr 3 1) (au (.int .i64 x16.P.N) (au (.ptr 0 0) (au (.ro 10 (t0.L.map qj.c)) (aG rfl ?_)))))
       rcases wy gg8 with ⟨_,gg8⟩ | ⟨x917,hx917,gg8⟩
       ·subst gg8
        first | replace hR:=wz hR | replace hR:=aJ hR
        cases hR
       try dsimp only at gg8
       obtain ⟨hx9170,hx917j,hx917l,hx917⟩:=ky hx917
       refine bn (c:=qj.c) (x:=x917) rfl rfl rfl hx9170 hx917 ?_
       refine au (.rptr (qj.c x917)) ?_
       refine au (.rptr [.int .i64 x917.P.N,.int .i64 x917.Proto,.int .i64 x917.Inst,.int .i64 x917.Dist,.int .i64 x917.Metric,.int .u32 x917.Tag,.bool x917.Leaked,.int .i64 x917.From,.ro 2 (x917.Hops.map THop.c)]) ?_
       refine au (.int .i64 x917.P.N) ?_
       iterate 3 refine au (.bool (decide (x917.P.N < x16.P.N))) ?_
       refine da [0,1,3,7,15,31,63,127,255,511,1023,511,2559,8191,16383,32767,65535,131071,262143,524287,1048575,2097151,524287,4718591,524287,29884415,63438847,130547711,264765439,536870911,1073741823,2147483647] (by kernel_rfl) (by kernel_rfl) (by kernel_rfl) ?_
       rcases qq (decide (x917.P.N < x16.P.N)) with hb19 | hb19
       ·rw [hb19]; try simp only [hb19,bb] at gg8
        refine aq rfl (aA ?_)
        refine aB (am (hK13 _ ?_))
        refine az qv (ar (v':=.int .i64 ((i16 + 1:Nat):Int)) rfl rfl rfl rfl (congrArg (PVal.int .i64) (aO hlt8 ge8)) (af rfl (aa ?_)))
        refine aB (am ?_)
        refine ga8 _ (t0.L.length - (i16 + 1)) _ (by omega) ?_ ⟨i16 + 1,at6,(by omega),rfl,gg8,rfl⟩
        exact Conv.keep [0,1,2] [] [2,3,4,6,14,15,16] rfl rfl (qx rfl rfl (qx rfl rfl (qx rfl rfl (qx rfl rfl (qx rfl rfl (qx rfl rfl (qx rfl rfl qy))))))) rfl rfl
       ·rw [hb19]; try simp only [hb19,bb] at gg8
        refine ap rfl (az qv (af rfl (af rfl (aa ?_))))
        refine aB (am (hK13 _ ?_))
        refine az qv (ar (v':=.int .i64 ((i16 + 1:Nat):Int)) rfl rfl rfl rfl (congrArg (PVal.int .i64) (aO hlt8 ge8)) (af rfl (aa ?_)))
        refine aB (am ?_)
        refine ga8 _ (t0.L.length - (i16 + 1)) _ (by omega) ?_ ⟨i16 + 1,(i16:Int),(by omega),rfl,gg8,rfl⟩
        exact Conv.keep [0,1,2] [] [2,3,4,6,14,15,16] rfl rfl (qx rfl rfl (qx rfl rfl (qx rfl rfl (qx rfl rfl (qx rfl rfl (qx rfl rfl (qx rfl rfl qy))))))) rfl rfl
      ·rw [hb17]; try simp only [hb17,bb] at gg8
       iterate 11 refine bE rfl rfl ?_
       refine au (.bool true) (au (.bool true) (da [0,1,3,7,15,31,63,127,255,511,1023,511,2559,8191,16383,32767,65535,131071,262143,524287,1048575,2097151,524287,4718591,524287,29884415,63438847,130547711,264765439,536870911,1073741823,2147483647] (by kernel_rfl) (by kernel_rfl) (by kernel_rfl) (ap rfl (az qv (af rfl (af rfl (aa ?_)))))))
       refine aB (am (hK13 _ ?_))
       refine az qv (ar (v':=.int .i64 ((i16 + 1:Nat):Int)) rfl rfl rfl rfl (congrArg (PVal.int .i64) (aO hlt8 ge8)) (af rfl (aa ?_)))
       refine aB (am ?_)
       refine ga8 _ (t0.L.length - (i16 + 1)) _ (by omega) ?_ ⟨i16 + 1,(i16:Int),(by omega),rfl,gg8,rfl⟩
       exact Conv.keep [0,1,2] [] [2,3,4,6,14,15,16] rfl rfl (qx rfl rfl (qx rfl rfl (qx rfl rfl (qx rfl rfl (qx rfl rfl (qx rfl rfl (qx rfl rfl qy))))))) rfl rfl
    ·rw [hb15]; try simp only [hb15,bb] at gg8
     iterate 5 refine bE rfl rfl ?_
     refine au (.bool false) (aG rfl ?_)
     iterate 15 refine bE rfl rfl ?_
     refine au (.bool false) (da [0,1,3,7,15,31,63,127,255,511,1023,511,2559,8191,16383,32767,65535,131071,262143,524287,1048575,2097151,524287,4718591,524287,29884415,63438847,130547711,264765439,536870911,1073741823,2147483647] (by kernel_rfl) (by kernel_rfl) (by kernel_rfl) (aq rfl (aA ?_)))
     refine aB (am (hK13 _ ?_))
     refine az qv (ar (v':=.int .i64 ((i16 + 1:Nat):Int)) rfl rfl rfl rfl (congrArg (PVal.int .i64) (aO hlt8 ge8)) (af rfl (aa ?_)))
     refine aB (am ?_)
     refine ga8 _ (t0.L.length - (i16 + 1)) _ (by omega) ?_ ⟨i16 + 1,at6,(by omega),rfl,gg8,rfl⟩
     exact Conv.keep [0,1,2] [] [2,3,4,6,14,15,16] rfl rfl (qx rfl rfl (qx rfl rfl (qx rfl rfl (qx rfl rfl (qx rfl rfl (qx rfl rfl (qx rfl rfl qy))))))) rfl rfl
 ·rw [hb1]; first | replace hR:=kz hb1 hR | (try simp only [hb1,bb] at hR)
  refine ap rfl (ah qv (ae (.agg (THop.c h1)) (ay (zj:=[(0,.box (qk.c t0)),(1,.box (THop.c h1)),(2,.box (THop.c h1))]) (zk:=3) rfl rfl rfl rfl rfl (af rfl (aa (aj ?_))))))
  obtain rfl:=Option.some.inj hR
  exact ai [] (.inr rfl) rfl rfl rfl rfl
theorem f117_ok (t0:qk) (c1:qj) (R:qj × Bool) (hR:F117 t0 c1 = some R):FnOk Tryz.prog 117 [.agg (qk.c t0),.agg (qj.c c1)] [] 0 (.tup [.agg (qj.c R.1),.bool R.2]) [] 0:=by
 refine FnOk.wk i117 rfl rfl ?_
 unfold F117 at hR
 try dsimp only at hR
 change WK _ _ _ [ac117] _ ⟨[(0,.agg (qk.c t0)),(1,.agg (qj.c c1))],[],0⟩
 unfold ac117
 refine ah qv (aw (v':=.ptr 0 0) (zj:=[(0,.box (qk.c t0))]) (zk:=1) rfl rfl rfl rfl rfl rfl rfl (aw (v':=.ptr 1 0) (zj:=[(0,.box (qk.c t0)),(1,.box (qj.c c1))]) (zk:=2) rfl rfl rfl rfl rfl rfl rfl (aw (v':=.ptr 2 0) (zj:=[(0,.box (qk.c t0)),(1,.box (qj.c c1)),(2,.box [.int .u32 0,.int .i64 0,.int .i64 0,.int .i64 0,.int .i64 0,.int .i64 0,.int .u32 0,.bool false,.int .i64 0,.nils])]) (zk:=3) rfl rfl rfl rfl rfl rfl rfl (af rfl (aa (ak (ah qv (ae (.ptr 1 2) (ae (.int .i64 c1.Proto) (ae (.bool (!decide (c1.Proto = 1))) (af rfl ?_)))))))))))
 rcases qq (decide (c1.Proto = 1)) with hb1 | hb1
 ·rw [hb1]; first | replace hR:=kw hb1 hR | (try simp only [hb1,bb] at hR)
  refine ag rfl rfl (ag rfl rfl (ae (.bool true) (aa (ap rfl (ah qv (ae (.agg (qj.c c1)) (ay (zj:=[(0,.box (qk.c t0)),(1,.box (qj.c c1)),(2,.box (qj.c c1))]) (zk:=3) rfl rfl rfl rfl rfl (af rfl (aa (aj ?_))))))))))
  obtain rfl:=Option.some.inj hR
  exact ai [] (.inr rfl) rfl rfl rfl rfl
 ·rw [hb1]; first | replace hR:=kz hb1 hR | (try simp only [hb1,bb] at hR)
  refine ae (.ptr 1 7) (ae (.bool c1.Leaked) (ae (.bool c1.Leaked) (aa ?_)))
  rcases qq (c1.Leaked) with hb2 | hb2
  ·rw [hb2]; first | replace hR:=kw hb2 hR | (try simp only [hb2,bb] at hR)
   refine aq rfl (aA (ah qv (af rfl (aa (ak (ah qv (ae (.ptr 1 9) (ae (.ro 2 (c1.Hops.map THop.c)) (ar (v':=.int .i64 (c1.Hops.length:Int)) rfl rfl rfl rfl (ww _ _) (af rfl (aa (WK.adopt (t:=6) (sz:=2) (ty:=81) (zj:=[(0,.box (qk.c t0)),(1,.box (qj.c c1)),(2,.box [.int .u32 0,.int .i64 0,.int .i64 0,.int .i64 0,.int .i64 0,.int .i64 0,.int .u32 0,.bool false,.int .i64 0,.nils]),(3,.row 2 81 (([]:List THop).map THop.c))]) rfl (by decide) (by simp) rfl ?_))))))))))))
   refine bq (t:=20) rfl (by simp) (fun ge11=>?_)
   rw [List.length_map] at ge11
   generalize gi11:F117l1 t0 ([]:List THop) c1.Hops = gh11 at hR
   refine aY (fun k s=>∃ (i22:Nat) (hops6:List THop),i22 ≤ c1.Hops.length ∧ k = c1.Hops.length - i22 ∧ F117l1 t0 hops6 (c1.Hops.drop i22) = gh11 ∧ s = ⟨[(2,.ptr 0 0),(3,.ptr 1 0),(4,.ptr 2 0),(6,.own 3 2 0 hops6.length),(20,.ro 2 (c1.Hops.map THop.c)),(21,.int .i64 (c1.Hops.length:Int)),(22,.int .i64 (i22:Int))],[(0,.box (qk.c t0)),(1,.box (qj.c c1)),(2,.box [.int .u32 0,.int .i64 0,.int .i64 0,.int .i64 0,.int .i64 0,.int .i64 0,.int .u32 0,.bool false,.int .i64 0,.nils]),(3,.row 2 81 (hops6.map THop.c))],4⟩) c1.Hops.length (by refine ⟨_,?_,0,([]:List THop),(by omega),rfl,gi11,rfl⟩; exact Conv.keep [0,1,2,3] [] [2,3,4,6,20,21,22] rfl rfl (qx rfl rfl (qx rfl rfl (qx rfl rfl (qx rfl rfl (qx rfl rfl (qx rfl rfl (qx rfl rfl qy))))))) rfl rfl) ?_
   rintro _ _ ⟨i22,hops6,gj11,rfl,gg11,rfl⟩ gb11 gd11 gk11 ga11 gc11 gf11
   refine ah qv (ae (.bool (decide ((i22:Int) < (c1.Hops.length:Int)))) (aa (ak ?_)))
   rcases qq (decide ((i22:Int) < (c1.Hops.length:Int))) with hb12 | hb12
   ·rw [hb12]
    rw [bc hb12,F117l1] at gg11
    refine aq rfl (aT ?_)
    refine aU (gc11 _ ?_)
    subst gg11
    replace hR:=be hR; try dsimp only at hR
    refine ak (ah qv (af rfl (ae (.int .i64 (hops6.length:Int)) (ae (.bool (decide ((hops6.length:Int) = 0))) (aa ?_)))))
    rcases qq (decide ((hops6.length:Int) = 0)) with hb13 | hb13
    ·rw [hb13]; first | replace hR:=kw hb13 hR | (try simp only [hb13,bb] at hR)
     refine aq rfl (aA (ah qv (af rfl (ae (.ptr 1 9) (ay (zj:=[(0,.box (qk.c t0)),(1,.box [.int .u32 c1.P.A,.int .i64 c1.P.N,.int .i64 c1.Proto,.int .i64 c1.Inst,.int .i64 c1.Dist,.int .i64 c1.Metric,.int .u32 c1.Tag,.bool c1.Leaked,.int .i64 c1.From,.own 3 2 0 hops6.length]),(2,.box [.int .u32 0,.int .i64 0,.int .i64 0,.int .i64 0,.int .i64 0,.int .i64 0,.int .u32 0,.bool false,.int .i64 0,.nils]),(3,.row 2 81 (hops6.map THop.c))]) (zk:=4) rfl rfl rfl rfl rfl (aa (ah qv (ae (.agg [.int .u32 c1.P.A,.int .i64 c1.P.N,.int .i64 c1.Proto,.int .i64 c1.Inst,.int .i64 c1.Dist,.int .i64 c1.Metric,.int .u32 c1.Tag,.bool c1.Leaked,.int .i64 c1.From,.own 3 2 0 hops6.length]) (ay (zj:=[(0,.box (qk.c t0)),(1,.box [.int .u32 c1.P.A,.int .i64 c1.P.N,.int .i64 c1.Proto,.int .i64 c1.Inst,.int .i64 c1.Dist,.int .i64 c1.Metric,.int .u32 c1.Tag,.bool c1.Leaked,.int .i64 c1.From,.own 3 2 0 hops6.length]),(2,.box [.int .u32 c1.P.A,.int .i64 c1.P.N,.int .i64 c1.Proto,.int .i64 c1.Inst,.int .i64 c1.Dist,.int .i64 c1.Metric,.int .u32 c1.Tag,.bool c1.Leaked,.int .i64 c1.From,.own 3 2 0 hops6.length]),(3,.row 2 81 (hops6.map THop.c))]) (zk:=4) rfl rfl rfl rfl rfl (af rfl (aa (aj ?_))))))))))))
     obtain rfl:=Option.some.inj hR
     exact ai [3] (.inr rfl) rfl rfl (qz (bG (qz rfl (qz rfl (qz rfl (qz rfl (qz rfl (qz rfl (qz rfl (qz rfl (qz rfl (qz (aN rfl rfl) qw))))))))))) (qz rfl qw)) rfl
    ·rw [hb13]; first | replace hR:=kz hb13 hR | (try simp only [hb13,bb] at hR)
     refine ap rfl (ah qv (ae (.agg [.int .u32 0,.int .i64 0,.int .i64 0,.int .i64 0,.int .i64 0,.int .i64 0,.int .u32 0,.bool false,.int .i64 0,.nils]) (ay (zj:=[(0,.box (qk.c t0)),(1,.box (qj.c c1)),(2,.box [.int .u32 0,.int .i64 0,.int .i64 0,.int .i64 0,.int .i64 0,.int .i64 0,.int .u32 0,.bool false,.int .i64 0,.nils]),(3,.row 2 81 (hops6.map THop.c))]) (zk:=4) rfl rfl rfl rfl rfl (af rfl (aa (aj ?_))))))
     obtain rfl:=Option.some.inj hR
     exact cL [] (.inr rfl) rfl rfl rfl (.tup (.cons (.agg (.cons .refl (.cons .refl (.cons .refl (.cons .refl (.cons .refl (.cons .refl (.cons .refl (.cons .refl (.cons .refl (.cons .nil .refl))))))))))) .refl))
   ·rw [hb12]
    obtain ⟨x22,hx11,hd11,hlt11⟩:=aR hb12
    rw [hd11,F117l1] at gg11
    refine ap rfl (aA (ak ?_))
    refine aI (fun _ hK14=>?_)
    refine ah qv (aZ (c:=THop.c) (x:=x22) rfl rfl rfl (Int.natCast_nonneg _) hx11 (ae (.agg (THop.c x22)) (aw (v':=.ptr 4 0) (zj:=[(0,.box (qk.c t0)),(1,.box (qj.c c1)),(2,.box [.int .u32 0,.int .i64 0,.int .i64 0,.int .i64 0,.int .i64 0,.int .i64 0,.int .u32 0,.bool false,.int .i64 0,.nils]),(3,.row 2 81 (hops6.map THop.c)),(4,.box [.int .i64 0,.int .u32 0])]) (zk:=5) rfl rfl rfl rfl rfl rfl rfl (ay (zj:=[(0,.box (qk.c t0)),(1,.box (qj.c c1)),(2,.box [.int .u32 0,.int .i64 0,.int .i64 0,.int .i64 0,.int .i64 0,.int .i64 0,.int .u32 0,.bool false,.int .i64 0,.nils]),(3,.row 2 81 (hops6.map THop.c)),(4,.box (THop.c x22))]) (zk:=5) rfl rfl rfl rfl rfl (aa (ah qv (ae (.agg (qk.c t0)) (ae (.agg (THop.c x22)) ?_))))))))
    rcases wy gg11 with ⟨_,gg11⟩ | ⟨c29,hc29,gg11⟩
    ·subst gg11
     first | replace hR:=wz hR | replace hR:=aJ hR
     cases hR
    try dsimp only at gg11
    refine av (r:=.tup [.agg (THop.c c29.1),.bool c29.2]) rfl rfl rfl (f148_ok t0 x22 _ hc29) rfl rfl (af rfl (ae (.agg (THop.c c29.1)) (ae (.bool c29.2) (aw (v':=.ptr 5 0) (zj:=[(0,.box (qk.c t0)),(1,.box (qj.c c1)),(2,.box [.int .u32 0,.int .i64 0,.int .i64 0,.int .i64 0,.int .i64 0,.int .i64 0,.int .u32 0,.bool false,.int .i64 0,.nils]),(3,.row 2 81 (hops6.map THop.c)),(4,.box (THop.c x22)),(5,.box [.int .i64 0,.int .u32 0])]) (zk:=6) rfl rfl rfl rfl rfl rfl rfl (ay (zj:=[(0,.box (qk.c t0)),(1,.box (qj.c c1)),(2,.box [.int .u32 0,.int .i64 0,.int .i64 0,.int .i64 0,.int .i64 0,.int .i64 0,.int .u32 0,.bool false,.int .i64 0,.nils]),(3,.row 2 81 (hops6.map THop.c)),(4,.box (THop.c x22)),(5,.box (THop.c c29.1))]) (zk:=6) rfl rfl rfl rfl rfl (af rfl (aa (ah qv (af rfl (aa ?_))))))))))
    rcases qq (c29.2) with hb15 | hb15
    ·rw [hb15]; try simp only [hb15,bb] at gg11
     refine aq rfl (aA ?_)
     refine aB (am (hK14 _ ?_))
     refine az qv (ar (v':=.int .i64 ((i22 + 1:Nat):Int)) rfl rfl rfl rfl (congrArg (PVal.int .i64) (aO hlt11 ge11)) (af rfl (aa ?_)))
     refine aB (am ?_)
     refine ga11 _ (c1.Hops.length - (i22 + 1)) _ (by omega) ?_ ⟨i22 + 1,hops6,(by omega),rfl,gg11,rfl⟩
     exact Conv.keep [0,1,2,3] [] [2,3,4,6,20,21,22] rfl rfl (qx rfl rfl (qx rfl rfl (qx rfl rfl (qx rfl rfl (qx rfl rfl (qx rfl rfl (qx rfl rfl qy))))))) rfl rfl
    ·rw [hb15]; try simp only [hb15,bb] at gg11
     refine ap rfl (az qv (af rfl (ae (.agg (THop.c c29.1)) (aw (v':=.own 6 2 0 (([c29.1]:List THop)).length) (zj:=[(0,.box (qk.c t0)),(1,.box (qj.c c1)),(2,.box [.int .u32 0,.int .i64 0,.int .i64 0,.int .i64 0,.int .i64 0,.int .i64 0,.int .u32 0,.bool false,.int .i64 0,.nils]),(3,.row 2 81 (hops6.map THop.c)),(4,.box (THop.c x22)),(5,.box (THop.c c29.1)),(6,.row 2 81 (([c29.1]:List THop).map THop.c))]) (zk:=7) rfl rfl rfl rfl rfl rfl rfl ?_))))
     rcases qq (decide (hops6.length < 1099511627776)) with hg16 | hg16
     ·replace gg11:=kw hg16 gg11
      subst gg11
      first | replace hR:=wz hR | replace hR:=aJ hR
      cases hR
     replace gg11:=kz hg16 gg11; try dsimp only at gg11
     have hg16_:=of_decide_eq_true hg16
     refine gz (c:=THop.c) (L:=hops6) (X:=([c29.1]:List THop)) (zj:=[(0,.box (qk.c t0)),(1,.box (qj.c c1)),(2,.box [.int .u32 0,.int .i64 0,.int .i64 0,.int .i64 0,.int .i64 0,.int .i64 0,.int .u32 0,.bool false,.int .i64 0,.nils]),(4,.box (THop.c x22)),(5,.box (THop.c c29.1)),(6,.row 2 81 (([c29.1]:List THop).map THop.c)),(7,.row 2 81 ((hops6 ++ ([c29.1]:List THop)).map THop.c))]) (zk:=8) rfl rfl rfl rfl (du rfl) (by ((try simp only [List.length_append,List.length_cons,List.length_nil,List.length_map,decide_eq_true_eq,decide_eq_false_iff_not] at *) <;> omega)) (by ((try simp only [List.length_append,List.length_cons,List.length_nil,List.length_map,decide_eq_true_eq,decide_eq_false_iff_not] at *) <;> omega)) rfl rfl rfl rfl (af rfl (aa ?_))
     refine aB (am (hK14 _ ?_))
     refine az qv (ar (v':=.int .i64 ((i22 + 1:Nat):Int)) rfl rfl rfl rfl (congrArg (PVal.int .i64) (aO hlt11 ge11)) (af rfl (aa ?_)))
     refine aB (am ?_)
     refine ga11 _ (c1.Hops.length - (i22 + 1)) _ (by omega) ?_ ⟨i22 + 1,(hops6 ++ ([c29.1]:List THop)),(by omega),rfl,gg11,rfl⟩
     exact Conv.keep [0,1,2,7] [] [2,3,4,6,20,21,22] rfl rfl (qx rfl rfl (qx rfl rfl (qx rfl rfl (qx rfl rfl (qx rfl rfl (qx rfl rfl (qx rfl rfl qy))))))) rfl rfl
  ·rw [hb2]; first | replace hR:=kz hb2 hR | (try simp only [hb2,bb] at hR)
   refine ap rfl (ah qv (ae (.agg (qj.c c1)) (ay (zj:=[(0,.box (qk.c t0)),(1,.box (qj.c c1)),(2,.box (qj.c c1))]) (zk:=3) rfl rfl rfl rfl rfl (af rfl (aa (aj ?_))))))
   obtain rfl:=Option.some.inj hR
   exact ai [] (.inr rfl) rfl rfl rfl rfl
theorem f118_ok (a0:qj) (b1:qj) (R:Int) (hR:F118 a0 b1 = R):FnOk Tryz.prog 118 [.agg (qj.c a0),.agg (qj.c b1)] [] 0 (.int .i64 R) [] 0:=by
 refine FnOk.wk i118 rfl rfl ?_
 unfold F118 at hR
 change WK _ _ _ [ac118] _ ⟨[(0,.agg (qj.c a0)),(1,.agg (qj.c b1))],[],0⟩
 unfold ac118
 refine ah qv (aw (v':=.ptr 0 0) (zj:=[(0,.box (qj.c a0))]) (zk:=1) rfl rfl rfl rfl rfl rfl rfl (aw (v':=.ptr 1 0) (zj:=[(0,.box (qj.c a0)),(1,.box (qj.c b1))]) (zk:=2) rfl rfl rfl rfl rfl rfl rfl (af rfl (aa (ak (aE qv (au (.ptr 0 4) (au (.int .i64 a0.Dist) (au (.ptr 1 4) (au (.int .i64 b1.Dist) ?_))))))))))
 generalize hc9:F127 a0.Dist b1.Dist = c9 at hR
 try dsimp only at hR
 refine aL (r:=.int .i64 c9) rfl rfl rfl (f127_ok a0.Dist b1.Dist _ hc9) rfl rfl (au (.agg (qj.c a0)) ?_)
 generalize hc11:F128 a0 = c11 at hR
 try dsimp only at hR
 refine aL (r:=.int .i64 c11) rfl rfl rfl (f128_ok a0 _ hc11) rfl rfl (au (.agg (qj.c b1)) ?_)
 generalize hc13:F128 b1 = c13 at hR
 try dsimp only at hR
 refine aL (r:=.int .i64 c13) rfl rfl rfl (f128_ok b1 _ hc13) rfl rfl (au (.int .i64 (IntKind.i64.wrap (c11 - c13))) (au (.ptr 0 2) (au (.int .i64 a0.Proto) (au (.ptr 1 2) (au (.int .i64 b1.Proto) ?_)))))
 generalize hc19:F127 a0.Proto b1.Proto = c19 at hR
 try dsimp only at hR
 refine aL (r:=.int .i64 c19) rfl rfl rfl (f127_ok a0.Proto b1.Proto _ hc19) rfl rfl (au (.ptr 0 5) (au (.int .i64 a0.Metric) (au (.ptr 1 5) (au (.int .i64 b1.Metric) ?_))))
 generalize hc24:F127 a0.Metric b1.Metric = c24 at hR
 try dsimp only at hR
 refine aL (r:=.int .i64 c24) rfl rfl rfl (f127_ok a0.Metric b1.Metric _ hc24) rfl rfl (au (.ptr 0 3) (au (.int .i64 a0.Inst) (au (.ptr 1 3) (au (.int .i64 b1.Inst) ?_))))
 generalize hc29:F127 a0.Inst b1.Inst = c29 at hR
 try dsimp only at hR
 refine aL (r:=.int .i64 c29) rfl rfl rfl (f127_ok a0.Inst b1.Inst _ hc29) rfl rfl (au (.ptr 0 8) (au (.int .i64 a0.From) (au (.ptr 1 8) (au (.int .i64 b1.From) ?_))))
 generalize hc34:F127 a0.From b1.From = c34 at hR
 try dsimp only at hR
 refine aL (r:=.int .i64 c34) rfl rfl rfl (f127_ok a0.From b1.From _ hc34) rfl rfl (bj (v':=.own 2 1 0 (([c9,IntKind.i64.wrap (c11 - c13),c19,c24,c29,c34]:List Int)).length) (zj:=[(0,.box (qj.c a0)),(1,.box (qj.c b1)),(2,.row 1 3 (([c9,IntKind.i64.wrap (c11 - c13),c19,c24,c29,c34]:List Int).map co))]) (zk:=3) rfl rfl rfl rfl rfl rfl rfl ?_)
 generalize hc36:F125 ([c9,IntKind.i64.wrap (c11 - c13),c19,c24,c29,c34]:List Int) = c36 at hR
 try dsimp only at hR
 refine dx (r:=.int .i64 c36) [2] rfl rfl rfl (qz (aN rfl rfl) qw) (f125_ok ([c9,IntKind.i64.wrap (c11 - c13),c19,c24,c29,c34]:List Int) _ hc36) rfl rfl (aG rfl (da [0,1,0,4,15,0,63,0,255,511,0,1024,0,4096,15871,0,32768,0,131072,523775,0,1048576,0,4194304,16776703,0,33554432,0,134217728,536870399,1073741823,2147483647,4294967295] (by kernel_rfl) (by kernel_rfl) (by kernel_rfl) (aj ?_)))
 subst hR
 exact ai [] (.inr rfl) rfl rfl rfl rfl
theorem f87_ok (a0:qj) (b1:qj) (R:Bool) (hR:F87 a0 b1 = R):FnOk Tryz.prog 87 [.agg (qj.c a0),.agg (qj.c b1)] [] 0 (.bool R) [] 0:=by
 refine FnOk.wk i87 rfl rfl ?_
 unfold F87 at hR
 change WK _ _ _ [ac87] _ ⟨[(0,.agg (qj.c a0)),(1,.agg (qj.c b1))],[],0⟩
 unfold ac87
 refine ah qv (aw (v':=.ptr 0 0) (zj:=[(0,.box (qj.c a0))]) (zk:=1) rfl rfl rfl rfl rfl rfl rfl (aw (v':=.ptr 1 0) (zj:=[(0,.box (qj.c a0)),(1,.box (qj.c b1))]) (zk:=2) rfl rfl rfl rfl rfl rfl rfl (af rfl (aa (ah qv (ae (.agg (qj.c a0)) (ae (.agg (qj.c b1)) ?_)))))))
 generalize hc7:F118 a0 b1 = c7 at hR
 try dsimp only at hR
 refine av (r:=.int .i64 c7) rfl rfl rfl (f118_ok a0 b1 _ hc7) rfl rfl (ae (.bool (decide (c7 < 0))) (af rfl (aa (aj ?_))))
 subst hR
 exact ai [] (.inr rfl) rfl rfl rfl rfl
theorem f44_ok (t0:qk) (R:List qj) (hR:allO t0 = some R):FnOk Tryz.prog 44 [.agg (qk.c t0)] [] 0 (.ro 10 (R.map qj.c)) [] 0:=f44_of f117_ok f87_ok t0 R hR
theorem f142_ok (c0:qj) (a1:zy) (R:Bool) (hR:F142 c0 a1 = R):FnOk Tryz.prog 142 [.agg (qj.c c0),.rptr (zy.c a1)] [] 0 (.bool R) [] 0:=by
 refine FnOk.wk i142 rfl rfl ?_
 unfold F142 at hR
 change WK _ _ _ [ac142] _ ⟨[(0,.agg (qj.c c0)),(1,.rptr (zy.c a1))],[],0⟩
 unfold ac142
 refine ah qv (aw (v':=.ptr 0 0) (zj:=[(0,.box (qj.c c0))]) (zk:=1) rfl rfl rfl rfl rfl rfl rfl (af rfl (aa (ah qv (ae (.ptr 0 0) (ae (.agg (zy.c c0.P)) (ae (.agg (zy.c a1)) (ae (.bool (decide (c0.P.A = a1.A) && (decide (c0.P.N = a1.N) && true))) (af rfl (aa (aj ?_)))))))))))
 subst hR
 exact ai [] (.inr rfl) rfl rfl rfl rfl
theorem f107_ok (t0:qk) (p1:zy) (R:qj × Bool) (hR:F107 t0 p1 = some R):FnOk Tryz.prog 107 [.agg (qk.c t0),.agg (zy.c p1)] [] 0 (.tup [.agg (qj.c R.1),.bool R.2]) [] 0:=by
 refine FnOk.wk i107 rfl rfl ?_
 unfold F107 at hR
 try dsimp only at hR
 change WK _ _ _ [ac107] _ ⟨[(0,.agg (qk.c t0)),(1,.agg (zy.c p1))],[],0⟩
 unfold ac107
 refine ah qv (aw (v':=.ptr 0 0) (zj:=[(0,.box (qk.c t0))]) (zk:=1) rfl rfl rfl rfl rfl rfl rfl (aw (v':=.ptr 1 0) (zj:=[(0,.box (qk.c t0)),(1,.box (zy.c p1))]) (zk:=2) rfl rfl rfl rfl rfl rfl rfl (aw (v':=.ptr 2 0) (zj:=[(0,.box (qk.c t0)),(1,.box (zy.c p1)),(2,.box [.int .u32 0,.int .i64 0,.int .i64 0,.int .i64 0,.int .i64 0,.int .i64 0,.int .u32 0,.bool false,.int .i64 0,.nils])]) (zk:=3) rfl rfl rfl rfl rfl rfl rfl (af rfl (aa (ah qv (ae (.agg (qk.c t0)) ?_)))))))
 obtain ⟨c9,hc9,hR⟩:=wx hR; try dsimp only at hR
 try dsimp only at hR
 refine av (r:=.ro 10 (c9.map qj.c)) rfl rfl rfl (f44_ok t0 _ hc9) rfl rfl (af rfl (aa (ah qv (af rfl (ae (.fn 142 [] [.ptr 1 0]) ?_)))))
 generalize hc12:F115 c9 (fun y0=>F142 y0 p1) = c12 at hR
 try dsimp only at hR
 refine dy (r:=.int .i64 c12) [1] rfl rfl rfl rfl (f115_ok c9 142 [] [.rptr (zy.c p1)] (fun y0=>F142 y0 p1) ⟨rfl,rfl⟩ (fun y0 _ hr=>f142_ok y0 p1 _ hr) _ hc12) rfl rfl (af rfl (aa (ak (ah qv (af rfl (ae (.bool (decide (c12 < 0))) (aa ?_)))))))
 rcases qq (decide (c12 < 0)) with hb1 | hb1
 ·rw [hb1]; first | replace hR:=kw hb1 hR | (try simp only [hb1,bb] at hR)
  refine aq rfl (aA (ah qv (af rfl (af rfl ?_))))
  obtain ⟨x901,hx901,hR⟩:=wx hR; try dsimp only at hR
  obtain ⟨hx9010,hx901j,hx901l,hx901⟩:=ky hx901
  refine aZ (c:=qj.c) (x:=x901) rfl rfl rfl hx9010 hx901 (ae (.agg (qj.c x901)) (ay (zj:=[(0,.box (qk.c t0)),(1,.box (zy.c p1)),(2,.box (qj.c x901))]) (zk:=3) rfl rfl rfl rfl rfl (af rfl (aa (aj ?_)))))
  obtain rfl:=Option.some.inj hR
  exact ai [] (.inr rfl) rfl rfl rfl rfl
 ·rw [hb1]; first | replace hR:=kz hb1 hR | (try simp only [hb1,bb] at hR)
  refine ap rfl (ah qv (ae (.agg [.int .u32 0,.int .i64 0,.int .i64 0,.int .i64 0,.int .i64 0,.int .i64 0,.int .u32 0,.bool false,.int .i64 0,.nils]) (ay (zj:=[(0,.box (qk.c t0)),(1,.box (zy.c p1)),(2,.box [.int .u32 0,.int .i64 0,.int .i64 0,.int .i64 0,.int .i64 0,.int .i64 0,.int .u32 0,.bool false,.int .i64 0,.nils])]) (zk:=3) rfl rfl rfl rfl rfl (af rfl (aa (aj ?_))))))
  obtain rfl:=Option.some.inj hR
  exact cL [] (.inr rfl) rfl rfl rfl (.tup (.cons (.agg (.cons .refl (.cons .refl (.cons .refl (.cons .refl (.cons .refl (.cons .refl (.cons .refl (.cons .refl (.cons .refl (.cons .nil .refl))))))))))) .refl))
theorem f143_ok (x0:List qj) (target1:zy) (gcmp2:FuncId) (gcmp2f gcmp2c:List PVal) (hcmp2:qj → zy → Int) (gcmp2k:PVal.closed.go gcmp2f = true ∧ PVal.closed.go gcmp2c = true) (gcmp2o : ∀ (y0:qj) (y1:zy) (R:Int),hcmp2 y0 y1 = R → FnOk Tryz.prog gcmp2 (gcmp2f ++ [.agg (qj.c y0),.agg (zy.c y1)] ++ gcmp2c) [] 0 (.int .i64 R) [] 0) (R:Int × Bool) (hR:F143 x0 target1 hcmp2 = some R):FnOk Tryz.prog 143 [.ro 10 (x0.map qj.c),.agg (zy.c target1),.fn gcmp2 gcmp2f gcmp2c] [] 0 (.tup [.int .i64 R.1,.bool R.2]) [] 0:=by
 refine FnOk.wk i143 rfl rfl ?_
 unfold F143 at hR
 try dsimp only at hR
 change WK _ _ _ [ac143] _ ⟨[(0,.ro 10 (x0.map qj.c)),(1,.agg (zy.c target1)),(2,.fn gcmp2 gcmp2f gcmp2c)],[],0⟩
 unfold ac143
 refine ah qv (aw (v':=.ptr 0 0) (zj:=[(0,.box (zy.c target1))]) (zk:=1) rfl rfl rfl rfl rfl rfl rfl (af rfl (af rfl (aa (ah qv (af rfl (ar (v':=.int .i64 (x0.length:Int)) rfl rfl rfl rfl (ww _ _) (af rfl (aa (ah qv (af rfl (af rfl (af rfl ?_)))))))))))))
 refine aa (ak ?_)
 refine bq (t:=0) rfl (by simp) (fun hln0_13=>?_)
 rw [List.length_map] at hln0_13
 generalize gi13:F143l1 x0 target1 hcmp2 100 0 (x0.length:Int) = gh13 at hR
 refine aY (fun k s=>∃ (i9:Int) (j10:Int),F143l1 x0 target1 hcmp2 k i9 j10 = gh13 ∧ s = ⟨[(0,.ro 10 (x0.map qj.c)),(2,.fn gcmp2 gcmp2f gcmp2c),(4,.ptr 0 0),(8,.int .i64 (x0.length:Int)),(9,.int .i64 i9),(10,.int .i64 j10)],[(0,.box (zy.c target1))],1⟩) 100 (by refine ⟨_,?_,0,(x0.length:Int),gi13,rfl⟩; exact Conv.keep [0] [] [0,2,4,8,9,10] rfl rfl (qx rfl rfl (qx rfl (aM gcmp2k) (qx rfl rfl (qx rfl rfl (qx rfl rfl (qx rfl rfl qy)))))) rfl rfl) ?_
 rintro k13 _ ⟨i9,j10,gg13,rfl⟩ gb13 gd13 gk13 ga13 gc13 gf13
 rcases k13 with _ | f13
 ·unfold F143l1 at gg13
  subst gg13
  first | replace hR:=wz hR | replace hR:=aJ hR
  cases hR
 unfold F143l1 at gg13; try dsimp only at gg13
 refine ak (ah qv (af rfl (af rfl (ae (.bool (decide (i9 < j10))) (aa ?_)))))
 rcases qq (decide (i9 < j10)) with hb14 | hb14
 ·rw [hb14]; try simp only [hb14,bb] at gg13
  refine aq rfl (aT ?_)
  refine aU (gc13 _ ?_)
  subst gg13
  replace hR:=be hR; try dsimp only at hR
  refine ak (aE qv (aG rfl (aG rfl (aG rfl (au (.bool (decide (i9 < (x0.length:Int)))) (aG rfl ?_))))))
  rcases qq (decide (i9 < (x0.length:Int))) with hb15 | hb15
  ·rw [hb15]; first | replace hR:=kw hb15 hR | (try simp only [hb15,bb] at hR)
   iterate 8 refine bE rfl rfl ?_
   refine au (.bool false) (aG rfl (aG rfl (aH rfl (aj ?_))))
   obtain rfl:=Option.some.inj hR
   exact ai [] (.inr rfl) rfl rfl rfl rfl
  ·rw [hb15]; first | replace hR:=kz hb15 hR | (try simp only [hb15,bb] at hR)
   iterate 3 refine aG rfl ?_
   obtain ⟨x915,hx915,hR⟩:=wx hR; try dsimp only at hR
   obtain ⟨hx9150,hx915j,hx915l,hx915⟩:=ky hx915
   refine bn (c:=qj.c) (x:=x915) rfl rfl rfl hx9150 hx915 (au (.agg (qj.c x915)) (au (.agg (zy.c target1)) ?_))
   generalize hc46:hcmp2 x915 target1 = c46 at hR
   try dsimp only at hR
   refine bQ (r:=.int .i64 c46) rfl rfl rfl (gcmp2o x915 target1 _ hc46) (closed3 gcmp2k.1 rfl gcmp2k.2) rfl (au (.bool (decide (c46 = 0))) (au (.bool (decide (c46 = 0))) (aG rfl (aG rfl (aH rfl (aj ?_))))))
   obtain rfl:=Option.some.inj hR
   exact ai [] (.inr rfl) rfl rfl rfl rfl
 ·rw [hb14]; try simp only [hb14,bb] at gg13
  refine ap rfl (aA ?_)
  refine aI (fun _ hK17=>?_)
  refine ah qv (af rfl (af rfl (ae (.int .i64 (IntKind.i64.wrap (i9 + j10))) (ae (.int .u64 (IntKind.u64.wrap (IntKind.i64.wrap (i9 + j10)))) (ae (.int .u64 (Int.fdiv (IntKind.u64.wrap (IntKind.i64.wrap (i9 + j10))) (2 ^ 1))) (ae (.int .i64 (IntKind.i64.wrap (Int.fdiv (IntKind.u64.wrap (IntKind.i64.wrap (i9 + j10))) (2 ^ 1)))) (af rfl (aa (ak (aE qv (aG rfl (aG rfl (aG rfl ?_)))))))))))))
  rcases wy gg13 with ⟨_,gg13⟩ | ⟨x917,hx917,gg13⟩
  ·subst gg13
   first | replace hR:=wz hR | replace hR:=aJ hR
   cases hR
  try dsimp only at gg13
  obtain ⟨hx9170,hx917j,hx917l,hx917⟩:=ky hx917
  refine bn (c:=qj.c) (x:=x917) rfl rfl rfl hx9170 hx917 (au (.agg (qj.c x917)) (au (.agg (zy.c target1)) ?_))
  generalize hc30:hcmp2 x917 target1 = c30 at gg13
  try dsimp only at gg13
  refine bQ (r:=.int .i64 c30) rfl rfl rfl (gcmp2o x917 target1 _ hc30) (closed3 gcmp2k.1 rfl gcmp2k.2) rfl (au (.bool (decide (c30 < 0))) (aH rfl ?_))
  rcases qq (decide (c30 < 0)) with hb19 | hb19
  ·rw [hb19]; try simp only [hb19,bb] at gg13
   refine aq rfl (az qv (af rfl (af rfl (aa ?_))))
   refine aB (am (hK17 _ ?_))
   refine aB (am ?_)
   refine ga13 _ f13 _ (Nat.lt_succ_self _) ?_ ⟨i9,(IntKind.i64.wrap (Int.fdiv (IntKind.u64.wrap (IntKind.i64.wrap (i9 + j10))) (2 ^ 1))),gg13,rfl⟩
   exact Conv.keep [0] [] [0,2,4,8,9,10] rfl rfl (qx rfl rfl (qx rfl (aM gcmp2k) (qx rfl rfl (qx rfl rfl (qx rfl rfl (qx rfl rfl qy)))))) rfl rfl
  ·rw [hb19]; try simp only [hb19,bb] at gg13
   refine ap rfl (az qv (af rfl (ae (.int .i64 (IntKind.i64.wrap ((IntKind.i64.wrap (Int.fdiv (IntKind.u64.wrap (IntKind.i64.wrap (i9 + j10))) (2 ^ 1))) + 1))) (af rfl (aa ?_)))))
   refine aB (am (hK17 _ ?_))
   refine aB (am ?_)
   refine ga13 _ f13 _ (Nat.lt_succ_self _) ?_ ⟨(IntKind.i64.wrap ((IntKind.i64.wrap (Int.fdiv (IntKind.u64.wrap (IntKind.i64.wrap (i9 + j10))) (2 ^ 1))) + 1)),j10,gg13,rfl⟩
   exact Conv.keep [0] [] [0,2,4,8,9,10] rfl rfl (qx rfl rfl (qx rfl (aM gcmp2k) (qx rfl rfl (qx rfl rfl (qx rfl rfl (qx rfl rfl qy)))))) rfl rfl
theorem f144_ok (x0:qj) (p1:zy) (R:Int) (hR:F144 x0 p1 = R):FnOk Tryz.prog 144 [.agg (qj.c x0),.agg (zy.c p1)] [] 0 (.int .i64 R) [] 0:=by
 refine FnOk.wk i144 rfl rfl ?_
 unfold F144 at hR
 change WK _ _ _ [ac144] _ ⟨[(0,.agg (qj.c x0)),(1,.agg (zy.c p1))],[],0⟩
 unfold ac144
 refine ah qv (aw (v':=.ptr 0 0) (zj:=[(0,.box (qj.c x0))]) (zk:=1) rfl rfl rfl rfl rfl rfl rfl (aw (v':=.ptr 1 0) (zj:=[(0,.box (qj.c x0)),(1,.box (zy.c p1))]) (zk:=2) rfl rfl rfl rfl rfl rfl rfl (af rfl (aa (ak (aE qv (au (.ptr 0 0) (au (.ptr 0 0) (au (.int .u32 x0.P.A) (au (.ptr 1 0) (au (.int .u32 p1.A) ?_)))))))))))
 generalize hc10:F126 x0.P.A p1.A = c10 at hR
 try dsimp only at hR
 refine aL (r:=.int .i64 c10) rfl rfl rfl (f126_ok x0.P.A p1.A _ hc10) rfl rfl (au (.ptr 0 0) (au (.ptr 0 1) (au (.int .i64 x0.P.N) (au (.ptr 1 1) (au (.int .i64 p1.N) ?_)))))
 generalize hc16:F127 x0.P.N p1.N = c16 at hR
 try dsimp only at hR
 refine aL (r:=.int .i64 c16) rfl rfl rfl (f127_ok x0.P.N p1.N _ hc16) rfl rfl (bj (v':=.own 2 1 0 (([c10,c16]:List Int)).length) (zj:=[(0,.box (qj.c x0)),(1,.box (zy.c p1)),(2,.row 1 3 (([c10,c16]:List Int).map co))]) (zk:=3) rfl rfl rfl rfl rfl rfl rfl ?_)
 generalize hc18:F125 ([c10,c16]:List Int) = c18 at hR
 try dsimp only at hR
 refine dx (r:=.int .i64 c18) [2] rfl rfl rfl (qz (aN rfl rfl) qw) (f125_ok ([c10,c16]:List Int) _ hc18) rfl rfl (aG rfl (aH rfl (aj ?_)))
 subst hR
 exact ai [] (.inr rfl) rfl rfl rfl rfl
theorem f108_ok (l0:List qj) (p1:zy) (c2:qj) (is3:Bool) (R:(List qj)) (hR:F108 l0 p1 c2 is3 = some R):FnOk Tryz.prog 108 [.ro 10 (l0.map qj.c),.agg (zy.c p1),.agg (qj.c c2),.bool is3] [] 0 (.ro 10 (R.map qj.c)) [] 0:=by
 refine FnOk.wk i108 rfl rfl ?_
 unfold F108 at hR
 try dsimp only at hR
 change WK _ _ _ [ac108] _ ⟨[(0,.ro 10 (l0.map qj.c)),(1,.agg (zy.c p1)),(2,.agg (qj.c c2)),(3,.bool is3)],[],0⟩
 unfold ac108
 refine ah qv (aw (v':=.ptr 0 0) (zj:=[(0,.box (zy.c p1))]) (zk:=1) rfl rfl rfl rfl rfl rfl rfl (aw (v':=.ptr 1 0) (zj:=[(0,.box (zy.c p1)),(1,.box (qj.c c2))]) (zk:=2) rfl rfl rfl rfl rfl rfl rfl (af rfl (aa (ah qv (af rfl (ae (.agg (zy.c p1)) ?_)))))))
 obtain ⟨c14,hc14,hR⟩:=wx hR; try dsimp only at hR
 refine av (r:=.tup [.int .i64 c14.1,.bool c14.2]) rfl rfl rfl (f143_ok l0 p1 144 [] [] (fun y0 y1=>F144 y0 y1) ⟨rfl,rfl⟩ (fun y0 y1 _ hr=>f144_ok y0 y1 _ hr) _ hc14) rfl rfl (af rfl (ae (.int .i64 c14.1) (ae (.bool c14.2) (af rfl (af rfl (aa (ah qv (af rfl ?_))))))))
 obtain ⟨hg1,hg1_,hR⟩:=gd hR; try dsimp only at hR
 refine bd (r':=.own 2 10 0 l0.length) (zj:=[(0,.box (zy.c p1)),(1,.box (qj.c c2)),(2,.row 10 42 (l0.map qj.c))]) (zk:=3) [] [] rfl rfl rfl rfl rfl rfl (cS (c:=qj.c) qv i85 l0 (by decide) (by omega) (by omega)) (.inl rfl) rfl rfl rfl (af rfl (aa (ak ?_)))
 refine aI (fun _ hK2=>?_)
 refine ah qv (af rfl (af rfl ?_))
 rcases qq (c14.2) with hb3 | hb3
 ·rw [hb3]; first | replace hR:=kw hb3 hR | (try simp only [hb3,bb] at hR)
  refine ag rfl rfl (ae (.bool false) (af rfl (aa (aq rfl (ah qv (af rfl (af rfl (aa (aq rfl (ah qv (af rfl (af rfl (aa ?_)))))))))))))
  rcases qq (is3) with hb4 | hb4
  ·rw [hb4]; first | replace hR:=kw hb4 hR | (try simp only [hb4,bb] at hR)
   refine aq rfl (aA ?_)
   refine aB (am (hK2 _ ?_))
   refine ah qv (af rfl (af rfl (aa (aj ?_))))
   obtain rfl:=Option.some.inj hR
   exact ai [2] (.inr rfl) rfl rfl (qz (aN rfl rfl) qw) rfl
  ·rw [hb4]; first | replace hR:=kz hb4 hR | (try simp only [hb4,bb] at hR)
   refine ap rfl (az qv (af rfl (af rfl (ae (.agg (qj.c c2)) (aw (v':=.own 3 10 0 (([c2]:List qj)).length) (zj:=[(0,.box (zy.c p1)),(1,.box (qj.c c2)),(2,.row 10 42 (l0.map qj.c)),(3,.row 10 42 (([c2]:List qj).map qj.c))]) (zk:=4) rfl rfl rfl rfl rfl rfl rfl ?_)))))
   obtain ⟨hg5,hg5_,hR⟩:=gd hR; try dsimp only at hR
   obtain ⟨hg6,hg6_,hR⟩:=gd hR; try dsimp only at hR
   refine bd (r':=.own 4 10 0 (db l0 c14.1 ([c2]:List qj)).length) (zj:=[(0,.box (zy.c p1)),(1,.box (qj.c c2)),(4,.row 10 42 ((db l0 c14.1 ([c2]:List qj)).map qj.c))]) (zk:=5) [2,3] [] rfl rfl rfl rfl rfl rfl (eQ (c:=qj.c) (fun _=>rfl) qv i92 ov92 l0 ([c2]:List qj) c14.1 rfl rfl (by omega) (by omega) (by (simp; done)) (by ((try simp only [List.length_append,List.length_cons,List.length_nil,List.length_map,decide_eq_true_eq,decide_eq_false_iff_not] at *) <;> omega)) (by ((try simp only [List.length_append,List.length_cons,List.length_nil,List.length_map,decide_eq_true_eq,decide_eq_false_iff_not] at *) <;> omega))) (.inl rfl) rfl rfl rfl (af rfl (aa ?_))
   refine aB (am (hK2 _ ?_))
   refine ah qv (af rfl (af rfl (aa (aj ?_))))
   obtain rfl:=Option.some.inj hR
   exact ai [4] (.inr rfl) rfl rfl (qz (aN rfl rfl) qw) rfl
 ·rw [hb3]; first | replace hR:=kz hb3 hR | (try simp only [hb3,bb] at hR)
  refine af rfl (ae (.bool is3) (af rfl (aa ?_)))
  rcases qq (is3) with hb7 | hb7
  ·rw [hb7]; first | replace hR:=kw hb7 hR | (try simp only [hb7,bb] at hR)
   refine aq rfl (ah qv (af rfl (af rfl (aa (ap rfl (az qv (af rfl (af rfl (af rfl (ae (.int .i64 (IntKind.i64.wrap (c14.1 + 1))) ?_))))))))))
   obtain ⟨hg8,hg8_,hR⟩:=gd hR; try dsimp only at hR
   obtain ⟨hg9,hg9_,hR⟩:=gd hR; try dsimp only at hR
   obtain ⟨hg10,hg10_,hR⟩:=gd hR; try dsimp only at hR
   refine bd (r':=.own 3 10 0 (bY l0 c14.1 (IntKind.i64.wrap (c14.1 + 1))).length) (zj:=[(0,.box (zy.c p1)),(1,.box (qj.c c2)),(3,.row 10 42 ((bY l0 c14.1 (IntKind.i64.wrap (c14.1 + 1))).map qj.c))]) (zk:=4) [2] [] rfl rfl rfl rfl rfl rfl (dM (c:=qj.c) (fun _=>rfl) qv i111 l0 c14.1 (IntKind.i64.wrap (c14.1 + 1)) rfl (by omega) (by omega) (by omega) (by omega)) (.inl rfl) rfl rfl rfl (af rfl (aa ?_))
   refine aB (am (hK2 _ ?_))
   refine ah qv (af rfl (af rfl (aa (aj ?_))))
   obtain rfl:=Option.some.inj hR
   exact ai [3] (.inr rfl) rfl rfl (qz (aN rfl rfl) qw) rfl
  ·rw [hb7]; first | replace hR:=kz hb7 hR | (try simp only [hb7,bb] at hR)
   refine ap rfl (az qv (af rfl (af rfl (ae (.agg (qj.c c2)) ?_))))
   obtain ⟨x910,hx910,hR⟩:=wx hR; try dsimp only at hR
   obtain ⟨hx9100,hx910j,hx910l,hx910⟩:=ky hx910
   refine ar (v':=.eptr 2 10 c14.1.toNat 0) rfl rfl rfl (aK (c:=qj.c) (L:=l0) (j:=c14.1.toNat) rfl hx910j hx910l (by exact Nat.le_refl _)) rfl (ay (zj:=[(0,.box (zy.c p1)),(1,.box (qj.c c2)),(2,.row 10 42 ((l0.set c14.1.toNat c2).map qj.c))]) (zk:=3) rfl rfl (bw (c:=qj.c) (L:=l0) (x:=x910) (x':=c2) rfl hx910 rfl rfl rfl rfl rfl) rfl rfl (aa ?_))
   refine aB (am (hK2 _ ?_))
   refine ah qv (af rfl (af rfl (aa (aj ?_))))
   obtain rfl:=Option.some.inj hR
   exact ai [2] (.inr rfl) rfl rfl (qz (fz rfl rfl (by simp)) qw) rfl
theorem f46_ok (c0:qj) (from1:Int) (R:Bool) (hR:F46 c0 from1 = R):FnOk Tryz.prog 46 [.agg (qj.c c0),.int .i64 from1] [] 0 (.bool R) [] 0:=by
 refine FnOk.wk i46 rfl rfl ?_
 unfold F46 at hR
 change WK _ _ _ [ac46] _ ⟨[(0,.agg (qj.c c0)),(1,.int .i64 from1)],[],0⟩
 unfold ac46
 refine ah qv (aw (v':=.ptr 0 0) (zj:=[(0,.box (qj.c c0))]) (zk:=1) rfl rfl rfl rfl rfl rfl rfl (af rfl (aa (ah qv (ae (.ptr 0 7) (ae (.bool c0.Leaked) (af rfl ?_)))))))
 rcases qq (c0.Leaked) with hb1 | hb1
 ·rw [hb1]; try simp only [hb1,bb] at hR
  iterate 4 refine ag rfl rfl ?_
  refine ae (.bool false) (af rfl (aa (aj ?_)))
  subst hR
  exact ai [] (.inr rfl) rfl rfl rfl rfl
 ·rw [hb1]; try simp only [hb1,bb] at hR
  refine ae (.ptr 0 8) (ae (.int .i64 c0.From) (af rfl (ae (.bool (decide (c0.From = from1))) (ae (.bool (decide (c0.From = from1))) (af rfl (aa (aj ?_)))))))
  subst hR
  exact ai [] (.inr rfl) rfl rfl rfl rfl
theorem f109_ok (c0:qj) (a1:Int) (a2:zy) (R:Bool) (hR:F109 c0 a1 a2 = R):FnOk Tryz.prog 109 [.agg (qj.c c0),.rptr [.int .i64 a1],.rptr (zy.c a2)] [] 0 (.bool R) [] 0:=by
 refine FnOk.wk i109 rfl rfl ?_
 unfold F109 at hR
 change WK _ _ _ [ac109] _ ⟨[(0,.agg (qj.c c0)),(1,.rptr [.int .i64 a1]),(2,.rptr (zy.c a2))],[],0⟩
 unfold ac109
 refine ah qv (aw (v':=.ptr 0 0) (zj:=[(0,.box (qj.c c0))]) (zk:=1) rfl rfl rfl rfl rfl rfl rfl (af rfl (aa (ah qv (ae (.agg (qj.c c0)) (ae (.int .i64 a1) ?_))))))
 generalize hc7:F46 c0 a1 = c7 at hR
 try dsimp only at hR
 refine av (r:=.bool c7) rfl rfl rfl (f46_ok c0 a1 _ hc7) rfl rfl (af rfl ?_)
 rcases qq (c7) with hb1 | hb1
 ·rw [hb1]; try simp only [hb1,bb] at hR
  iterate 4 refine ag rfl rfl ?_
  refine ae (.bool false) (af rfl (aa (aj ?_)))
  subst hR
  exact ai [] (.inr rfl) rfl rfl rfl rfl
 ·rw [hb1]; try simp only [hb1,bb] at hR
  refine ae (.ptr 0 0) ?_
  refine ae (.agg (zy.c c0.P)) ?_
  refine ae (.agg (zy.c a2)) ?_
  iterate 2 refine ae (.bool (decide (c0.P.A = a2.A) && (decide (c0.P.N = a2.N) && true))) ?_
  refine af rfl ?_
  refine aa ?_
  refine aj ?_
  subst hR
  exact ai [] (.inr rfl) rfl rfl rfl rfl
theorem f71_ok (n0:TNet) (at1:Int) (p2:zy) (R:TNet) (hR:F71 n0 at1 p2 = some R):FnOk Tryz.prog 71 [.ptr 0 0,.int .i64 at1,.agg (zy.c p2)] [(0,.box [.own 1 1 0 n0.T.length,.own 2 1 0 n0.Sel.length,.ro 3 (n0.L.map zz.c),.own 3 3 0 n0.Work.length,.bool n0.Over]),(1,.row 1 36 (n0.T.map qk.c)),(2,.row 1 34 (n0.Sel.map (wv 10 qj.c))),(3,.row 3 108 (n0.Work.map zw.c))] 4 (.tup []) [(0,.box [.own 4 1 0 R.T.length,.own 5 1 0 R.Sel.length,.ro 3 (R.L.map zz.c),.own 6 3 0 R.Work.length,.bool R.Over]),(4,.row 1 36 (R.T.map qk.c)),(5,.row 1 34 (R.Sel.map (wv 10 qj.c))),(6,.row 3 108 (R.Work.map zw.c))] 7:=by
 refine FnOk.wk i71 rfl rfl ?_
 unfold F71 at hR
 try dsimp only at hR
 change WK _ _ _ [ac71] _ ⟨[(0,.ptr 0 0),(1,.int .i64 at1),(2,.agg (zy.c p2))],[(0,.box [.own 1 1 0 n0.T.length,.own 2 1 0 n0.Sel.length,.ro 3 (n0.L.map zz.c),.own 3 3 0 n0.Work.length,.bool n0.Over]),(1,.row 1 36 (n0.T.map qk.c)),(2,.row 1 34 (n0.Sel.map (wv 10 qj.c))),(3,.row 3 108 (n0.Work.map zw.c))],4⟩
 unfold ac71
 refine fU (id:=0) (j:=0) (zj:=[(0,.box [.own 4 1 0 n0.T.length,.own 2 1 0 n0.Sel.length,.ro 3 (n0.L.map zz.c),.own 3 3 0 n0.Work.length,.bool n0.Over]),(2,.row 1 34 (n0.Sel.map (wv 10 qj.c))),(3,.row 3 108 (n0.Work.map zw.c)),(4,.row 1 36 (n0.T.map qk.c))]) rfl rfl rfl (by simp) rfl (fU (id:=0) (j:=1) (zj:=[(0,.box [.own 4 1 0 n0.T.length,.own 5 1 0 n0.Sel.length,.ro 3 (n0.L.map zz.c),.own 3 3 0 n0.Work.length,.bool n0.Over]),(3,.row 3 108 (n0.Work.map zw.c)),(4,.row 1 36 (n0.T.map qk.c)),(5,.row 1 34 (n0.Sel.map (wv 10 qj.c)))]) rfl rfl rfl (by simp) rfl (fU (id:=0) (j:=3) (zj:=[(0,.box [.own 4 1 0 n0.T.length,.own 5 1 0 n0.Sel.length,.ro 3 (n0.L.map zz.c),.own 6 3 0 n0.Work.length,.bool n0.Over]),(4,.row 1 36 (n0.T.map qk.c)),(5,.row 1 34 (n0.Sel.map (wv 10 qj.c))),(6,.row 3 108 (n0.Work.map zw.c))]) rfl rfl rfl (by simp) rfl (ah qv (aw (v':=.ptr 7 0) (zj:=[(0,.box [.own 4 1 0 n0.T.length,.own 5 1 0 n0.Sel.length,.ro 3 (n0.L.map zz.c),.own 6 3 0 n0.Work.length,.bool n0.Over]),(4,.row 1 36 (n0.T.map qk.c)),(5,.row 1 34 (n0.Sel.map (wv 10 qj.c))),(6,.row 3 108 (n0.Work.map zw.c)),(7,.box [.int .i64 at1])]) (zk:=8) rfl rfl rfl rfl rfl rfl rfl (aw (v':=.ptr 8 0) (zj:=[(0,.box [.own 4 1 0 n0.T.length,.own 5 1 0 n0.Sel.length,.ro 3 (n0.L.map zz.c),.own 6 3 0 n0.Work.length,.bool n0.Over]),(4,.row 1 36 (n0.T.map qk.c)),(5,.row 1 34 (n0.Sel.map (wv 10 qj.c))),(6,.row 3 108 (n0.Work.map zw.c)),(7,.box [.int .i64 at1]),(8,.box (zy.c p2))]) (zk:=9) rfl rfl rfl rfl rfl rfl rfl (aa (ak (aE qv (aG rfl (au (.ptr 0 0) (au (.ptr 0 0) (au (.own 4 1 0 n0.T.length) (au (.int .i64 at1) ?_)))))))))))))
 obtain ⟨x900,hx900,hR⟩:=wx hR; try dsimp only at hR
 obtain ⟨hx9000,hx900j,hx900l,hx900⟩:=ky hx900
 refine aF (v':=.eptr 4 1 at1.toNat 0) rfl rfl rfl (aK (c:=qk.c) (L:=n0.T) (j:=at1.toNat) rfl hx900j hx900l (by exact Nat.le_refl _)) rfl (aF (v':=.agg (qk.c x900)) rfl rfl rfl (bf (c:=qk.c) (L:=n0.T) (x:=x900) rfl hx900 rfl) rfl (au (.agg (zy.c p2)) ?_))
 obtain ⟨c24,hc24,hR⟩:=wx hR; try dsimp only at hR
 refine aL (r:=.tup [.agg (qj.c c24.1),.bool c24.2]) rfl rfl rfl (f107_ok x900 p2 _ hc24) rfl rfl (aG rfl (au (.agg (qj.c c24.1)) (au (.bool c24.2) (bj (v':=.ptr 9 0) (zj:=[(0,.box [.own 4 1 0 n0.T.length,.own 5 1 0 n0.Sel.length,.ro 3 (n0.L.map zz.c),.own 6 3 0 n0.Work.length,.bool n0.Over]),(4,.row 1 36 (n0.T.map qk.c)),(5,.row 1 34 (n0.Sel.map (wv 10 qj.c))),(6,.row 3 108 (n0.Work.map zw.c)),(7,.box [.int .i64 at1]),(8,.box (zy.c p2)),(9,.box [.int .u32 0,.int .i64 0,.int .i64 0,.int .i64 0,.int .i64 0,.int .i64 0,.int .u32 0,.bool false,.int .i64 0,.nils])]) (zk:=10) rfl rfl rfl rfl rfl rfl rfl (aV (zj:=[(0,.box [.own 4 1 0 n0.T.length,.own 5 1 0 n0.Sel.length,.ro 3 (n0.L.map zz.c),.own 6 3 0 n0.Work.length,.bool n0.Over]),(4,.row 1 36 (n0.T.map qk.c)),(5,.row 1 34 (n0.Sel.map (wv 10 qj.c))),(6,.row 3 108 (n0.Work.map zw.c)),(7,.box [.int .i64 at1]),(8,.box (zy.c p2)),(9,.box (qj.c c24.1))]) (zk:=10) rfl rfl rfl rfl rfl (aG rfl (aH rfl (ak (aE qv (aG rfl (au (.ptr 0 0) (au (.ptr 0 1) (au (.own 5 1 0 n0.Sel.length) ?_)))))))))))))
 refine au (.int .i64 at1) (aG rfl (au (.ptr 0 0) (au (.ptr 0 1) (au (.own 5 1 0 n0.Sel.length) (au (.int .i64 at1) ?_)))))
 obtain ⟨x901,hx901,hR⟩:=wx hR; try dsimp only at hR
 obtain ⟨hx9010,hx901j,hx901l,hx901⟩:=ky hx901
 refine aF (v':=.eptr 5 1 at1.toNat 0) rfl rfl rfl (aK (c:=(wv 10 qj.c)) (L:=n0.Sel) (j:=at1.toNat) rfl hx901j hx901l (by exact Nat.le_refl _)) rfl (aF (v':=.ro 10 (x901.map qj.c)) rfl rfl rfl (bf (c:=(wv 10 qj.c)) (L:=n0.Sel) (x:=x901) rfl hx901 rfl) rfl (au (.agg (zy.c p2)) (au (.agg (qj.c c24.1)) (aG rfl ?_))))
 obtain ⟨c42,hc42,hR⟩:=wx hR; try dsimp only at hR
 try dsimp only at hR
 refine aL (r:=.ro 10 (c42.map qj.c)) rfl rfl rfl (f108_ok x901 p2 c24.1 c24.2 _ hc42) rfl rfl (aF (v':=.eptr 5 1 at1.toNat 0) rfl rfl rfl (aK (c:=(wv 10 qj.c)) (L:=n0.Sel) (j:=at1.toNat) rfl hx901j hx901l (by exact Nat.le_refl _)) rfl (aV (zj:=[(0,.box [.own 4 1 0 n0.T.length,.own 5 1 0 n0.Sel.length,.ro 3 (n0.L.map zz.c),.own 6 3 0 n0.Work.length,.bool n0.Over]),(4,.row 1 36 (n0.T.map qk.c)),(5,.row 1 34 ((n0.Sel.set at1.toNat c42).map (wv 10 qj.c))),(6,.row 3 108 (n0.Work.map zw.c)),(7,.box [.int .i64 at1]),(8,.box (zy.c p2)),(9,.box (qj.c c24.1))]) (zk:=10) rfl rfl (bw (c:=(wv 10 qj.c)) (L:=n0.Sel) (x:=x901) (x':=c42) rfl hx901 rfl rfl rfl rfl rfl) rfl rfl (aH rfl (ah qv (af rfl (ae (.ptr 0 0) (ae (.ptr 0 2) (ae (.ro 3 (n0.L.map zz.c)) (ar (v':=.int .i64 (n0.L.length:Int)) rfl rfl rfl rfl (ww _ _) (af rfl (aa ?_)))))))))))
 refine bz (st':=⟨[(0,.ptr 0 0),(4,.rptr [.int .i64 at1]),(5,.rptr (zy.c p2)),(6,.ptr 7 0),(7,.bool c24.2),(47,.ro 3 (n0.L.map zz.c)),(48,.int .i64 (n0.L.length:Int)),(49,.int .i64 0)],[(0,.box [.own 4 1 0 n0.T.length,.own 5 1 0 n0.Sel.length,.ro 3 (n0.L.map zz.c),.own 6 3 0 n0.Work.length,.bool n0.Over]),(4,.row 1 36 (n0.T.map qk.c)),(5,.row 1 34 ((n0.Sel.set at1.toNat c42).map (wv 10 qj.c))),(6,.row 3 108 (n0.Work.map zw.c)),(7,.box (qj.c c24.1))],8⟩) (bm [0,1,2,3,4,5,6,9] [7,8] [0,4,5,6,7,47,48,49] rfl rfl (qx rfl rfl (qx rfl rfl (qx rfl rfl (qx rfl rfl (qx rfl rfl (qx rfl rfl (qx rfl rfl (qx rfl rfl qy)))))))) rfl rfl) ?_ (by simp)
 refine bq (t:=47) rfl (by simp) (fun ge31=>?_)
 rw [List.length_map] at ge31
 generalize gi31:F71l1 at1 p2 c24 c24.2 (⟨n0.T,(n0.Sel.set at1.toNat c42),n0.L,n0.Work,n0.Over⟩ : TNet) n0.L = gh31 at hR
 refine aY (fun k s=>∃ (i49:Nat) (is7:Bool) (n0x:TNet),i49 ≤ n0.L.length ∧ k = n0.L.length - i49 ∧ F71l1 at1 p2 c24 is7 n0x (n0.L.drop i49) = gh31 ∧ s = ⟨[(0,.ptr 0 0),(4,.rptr [.int .i64 at1]),(5,.rptr (zy.c p2)),(6,.ptr 7 0),(7,.bool is7),(47,.ro 3 (n0.L.map zz.c)),(48,.int .i64 (n0.L.length:Int)),(49,.int .i64 (i49:Int))],[(0,.box [.own 4 1 0 n0x.T.length,.own 5 1 0 n0x.Sel.length,.ro 3 (n0x.L.map zz.c),.own 6 3 0 n0x.Work.length,.bool n0x.Over]),(4,.row 1 36 (n0x.T.map qk.c)),(5,.row 1 34 (n0x.Sel.map (wv 10 qj.c))),(6,.row 3 108 (n0x.Work.map zw.c)),(7,.box (qj.c c24.1))],8⟩) n0.L.length (by refine ⟨_,?_,0,c24.2,(⟨n0.T,(n0.Sel.set at1.toNat c42),n0.L,n0.Work,n0.Over⟩ : TNet),(by omega),rfl,gi31,rfl⟩; exact bm [0,1,2,3,4,5,6,7] [] [0,4,5,6,7,47,48,49] rfl rfl (qx rfl rfl (qx rfl rfl (qx rfl rfl (qx rfl rfl (qx rfl rfl (qx rfl rfl (qx rfl rfl (qx rfl rfl qy)))))))) (bO rfl (bN (qz rfl (qz (br rfl (by simp)) (qz rfl (qz rfl (qz rfl qw)))))) (fC rfl (fC rfl (fC rfl (bO rfl rfl (bO rfl rfl (bO rfl rfl (bO rfl rfl subR_nil)))))))) rfl) ?_
 rintro _ _ ⟨i49,is7,n0x,gj31,rfl,gg31,rfl⟩ gb31 gd31 gk31 ga31 gc31 gf31
 refine ah qv (ae (.bool (decide ((i49:Int) < (n0.L.length:Int)))) (aa (ak ?_)))
 rcases qq (decide ((i49:Int) < (n0.L.length:Int))) with hb32 | hb32
 ·rw [hb32]
  rw [bc hb32,F71l1] at gg31
  refine aq rfl (aT ?_)
  refine aU (gc31 _ ?_)
  subst gg31
  replace hR:=be hR; try dsimp only at hR
  refine aB ?_
  obtain rfl:=Option.some.inj hR
  exact RetQ.ret [0,1,2,3,4,5,6] [] (.inl rfl) rfl rfl rfl rfl rfl .refl rfl
 ·rw [hb32]
  obtain ⟨x49,hx31,hd31,hlt31⟩:=aR hb32
  rw [hd31,F71l1] at gg31
  refine ap rfl (aA (ak ?_))
  refine aI (fun _ hK33=>?_)
  refine ah qv (aZ (c:=zz.c) (x:=x49) rfl rfl rfl (Int.natCast_nonneg _) hx31 (ae (.agg (zz.c x49)) (aw (v':=.ptr 8 0) (zj:=[(0,.box [.own 4 1 0 n0x.T.length,.own 5 1 0 n0x.Sel.length,.ro 3 (n0x.L.map zz.c),.own 6 3 0 n0x.Work.length,.bool n0x.Over]),(4,.row 1 36 (n0x.T.map qk.c)),(5,.row 1 34 (n0x.Sel.map (wv 10 qj.c))),(6,.row 3 108 (n0x.Work.map zw.c)),(7,.box (qj.c c24.1)),(8,.box [.int .i64 0,.int .i64 0,.nils])]) (zk:=9) rfl rfl rfl rfl rfl rfl rfl (ay (zj:=[(0,.box [.own 4 1 0 n0x.T.length,.own 5 1 0 n0x.Sel.length,.ro 3 (n0x.L.map zz.c),.own 6 3 0 n0x.Work.length,.bool n0x.Over]),(4,.row 1 36 (n0x.T.map qk.c)),(5,.row 1 34 (n0x.Sel.map (wv 10 qj.c))),(6,.row 3 108 (n0x.Work.map zw.c)),(7,.box (qj.c c24.1)),(8,.box (zz.c x49))]) (zk:=9) rfl rfl rfl rfl rfl (aa (ak (ah qv (ae (.ptr 8 0) (ae (.int .i64 x49.From) (ae (.int .i64 at1) (ae (.bool (!decide (x49.From = at1))) (aa ?_))))))))))))
  rcases qq (decide (x49.From = at1)) with hb34 | hb34
  ·rw [hb34]; try simp only [hb34,bb] at gg31
   refine ap rfl (aT ?_)
   refine aU (hK33 _ ?_)
   refine az qv (ar (v':=.int .i64 ((i49 + 1:Nat):Int)) rfl rfl rfl rfl (congrArg (PVal.int .i64) (aO hlt31 ge31)) (af rfl (aa ?_)))
   refine aB (am ?_)
   refine ga31 _ (n0.L.length - (i49 + 1)) _ (by omega) ?_ ⟨i49 + 1,is7,n0x,(by omega),rfl,gg31,rfl⟩
   exact bm [0,1,2,3,4,5,6,7] [] [0,4,5,6,7,47,48,49] rfl rfl (qx rfl rfl (qx rfl rfl (qx rfl rfl (qx rfl rfl (qx rfl rfl (qx rfl rfl (qx rfl rfl (qx rfl rfl qy)))))))) rfl rfl
  ·rw [hb34]; try simp only [hb34,bb] at gg31
   refine aq rfl (aA (ak (aE qv (aG rfl (au (.ptr 0 0) (au (.ptr 0 0) (au (.own 4 1 0 n0x.T.length) (au (.ptr 8 1) (au (.int .i64 x49.To) ?_)))))))))
   rcases wy gg31 with ⟨_,gg31⟩ | ⟨x934,hx934,gg31⟩
   ·subst gg31
    first | replace hR:=wz hR | replace hR:=aJ hR
    cases hR
   try dsimp only at gg31
   obtain ⟨hx9340,hx934j,hx934l,hx934⟩:=ky hx934
   refine aF (v':=.eptr 4 1 x49.To.toNat 0) rfl rfl rfl (aK (c:=qk.c) (L:=n0x.T) (j:=x49.To.toNat) rfl hx934j hx934l (by exact Nat.le_refl _)) rfl (aF (v':=.agg (qk.c x934)) rfl rfl rfl (bf (c:=qk.c) (L:=n0x.T) (x:=x934) rfl hx934 rfl) rfl (au (.fn 109 [] [.rptr [.int .i64 at1],.rptr (zy.c p2)]) ?_))
   rcases wy gg31 with ⟨_,gg31⟩ | ⟨c66,hc66,gg31⟩
   ·subst gg31
    first | replace hR:=wz hR | replace hR:=aJ hR
    cases hR
   try dsimp only at gg31
   try dsimp only at gg31
   refine aL (r:=.agg [.ro 10 (c66.L.map qj.c)]) rfl rfl rfl (f42_ok x934 109 [] [.rptr [.int .i64 at1],.rptr (zy.c p2)] (fun y0=>F109 y0 at1 p2) ⟨rfl,rfl⟩ (fun y0 _ hr=>f109_ok y0 at1 p2 _ hr) _ hc66) rfl rfl (bj (v':=.ptr 9 0) (zj:=[(0,.box [.own 4 1 0 n0x.T.length,.own 5 1 0 n0x.Sel.length,.ro 3 (n0x.L.map zz.c),.own 6 3 0 n0x.Work.length,.bool n0x.Over]),(4,.row 1 36 (n0x.T.map qk.c)),(5,.row 1 34 (n0x.Sel.map (wv 10 qj.c))),(6,.row 3 108 (n0x.Work.map zw.c)),(7,.box (qj.c c24.1)),(8,.box (zz.c x49)),(9,.box [.nils])]) (zk:=10) rfl rfl rfl rfl rfl rfl rfl (aV (zj:=[(0,.box [.own 4 1 0 n0x.T.length,.own 5 1 0 n0x.Sel.length,.ro 3 (n0x.L.map zz.c),.own 6 3 0 n0x.Work.length,.bool n0x.Over]),(4,.row 1 36 (n0x.T.map qk.c)),(5,.row 1 34 (n0x.Sel.map (wv 10 qj.c))),(6,.row 3 108 (n0x.Work.map zw.c)),(7,.box (qj.c c24.1)),(8,.box (zz.c x49)),(9,.box (qk.c c66))]) (zk:=10) rfl rfl rfl rfl rfl (aH rfl (ak (ah qv (ae (.agg (zz.c x49)) (ae (.agg (qj.c c24.1)) ?_)))))))
   rcases wy gg31 with ⟨_,gg31⟩ | ⟨c70,hc70,gg31⟩
   ·subst gg31
    first | replace hR:=wz hR | replace hR:=aJ hR
    cases hR
   try dsimp only at gg31
   refine av (r:=.tup [.agg (qj.c c70.1),.bool c70.2]) rfl rfl rfl (f47_ok x49 c24.1 _ hc70) rfl rfl (af rfl (ae (.agg (qj.c c70.1)) (ae (.bool c70.2) (aw (v':=.ptr 10 0) (zj:=[(0,.box [.own 4 1 0 n0x.T.length,.own 5 1 0 n0x.Sel.length,.ro 3 (n0x.L.map zz.c),.own 6 3 0 n0x.Work.length,.bool n0x.Over]),(4,.row 1 36 (n0x.T.map qk.c)),(5,.row 1 34 (n0x.Sel.map (wv 10 qj.c))),(6,.row 3 108 (n0x.Work.map zw.c)),(7,.box (qj.c c24.1)),(8,.box (zz.c x49)),(9,.box (qk.c c66)),(10,.box [.int .u32 0,.int .i64 0,.int .i64 0,.int .i64 0,.int .i64 0,.int .i64 0,.int .u32 0,.bool false,.int .i64 0,.nils])]) (zk:=11) rfl rfl rfl rfl rfl rfl rfl (ay (zj:=[(0,.box [.own 4 1 0 n0x.T.length,.own 5 1 0 n0x.Sel.length,.ro 3 (n0x.L.map zz.c),.own 6 3 0 n0x.Work.length,.bool n0x.Over]),(4,.row 1 36 (n0x.T.map qk.c)),(5,.row 1 34 (n0x.Sel.map (wv 10 qj.c))),(6,.row 3 108 (n0x.Work.map zw.c)),(7,.box (qj.c c24.1)),(8,.box (zz.c x49)),(9,.box (qk.c c66)),(10,.box (qj.c c70.1))]) (zk:=11) rfl rfl rfl rfl rfl (af rfl (aa (ah qv (af rfl (af rfl ?_))))))))))
   rcases qq (c70.2) with hb36 | hb36
   ·rw [hb36]; try simp only [hb36,bb] at gg31
    refine ag rfl rfl (ae (.bool false) (aa (aq rfl (aA (ak (aE qv (au (.ptr 9 0) (au (.ro 10 (c66.L.map qj.c)) (aG rfl (au (.ptr 0 0) (au (.ptr 0 0) (au (.own 4 1 0 n0x.T.length) (au (.ptr 8 1) ?_)))))))))))))
    refine au (.int .i64 x49.To) (aF (v':=.eptr 4 1 x49.To.toNat 0) rfl rfl rfl (aK (c:=qk.c) (L:=n0x.T) (j:=x49.To.toNat) rfl hx934j hx934l (by exact Nat.le_refl _)) rfl (aF (v':=.eptr 4 1 x49.To.toNat 0) rfl rfl rfl (cy (c:=qk.c) (L:=n0x.T) rfl (by omega) rfl) rfl (aF (v':=.ro 10 (x934.L.map qj.c)) rfl rfl rfl (bf (c:=qk.c) (L:=n0x.T) (x:=x934) rfl hx934 rfl) rfl ?_)))
    generalize hc106:F56 c66.L x934.L (fun y0 y1=>F57 y0 y1) = c106 at gg31
    try dsimp only at gg31
    refine aL (r:=.bool c106) rfl rfl rfl (f56_ok c66.L x934.L 57 [] [] (fun y0 y1=>F57 y0 y1) ⟨rfl,rfl⟩ (fun y0 y1 _ hr=>f57_ok y0 y1 _ hr) _ hc106) rfl rfl (au (.bool (!c106)) (aH rfl ?_))
    rcases qq (c106) with hb37 | hb37
    ·rw [hb37]; try simp only [hb37,bb] at gg31
     refine ap rfl (ak (aE qv (aG rfl (au (.ptr 0 0) (au (.ptr 0 0) (au (.own 4 1 0 n0x.T.length) (au (.ptr 8 1) (au (.int .i64 x49.To) (au (.agg (qk.c c66)) (aF (v':=.eptr 4 1 x49.To.toNat 0) rfl rfl rfl (aK (c:=qk.c) (L:=n0x.T) (j:=x49.To.toNat) rfl hx934j hx934l (by exact Nat.le_refl _)) rfl (aV (zj:=[(0,.box [.own 4 1 0 n0x.T.length,.own 5 1 0 n0x.Sel.length,.ro 3 (n0x.L.map zz.c),.own 6 3 0 n0x.Work.length,.bool n0x.Over]),(4,.row 1 36 ((n0x.T.set x49.To.toNat c66).map qk.c)),(5,.row 1 34 (n0x.Sel.map (wv 10 qj.c))),(6,.row 3 108 (n0x.Work.map zw.c)),(7,.box (qj.c c24.1)),(8,.box (zz.c x49)),(9,.box (qk.c c66)),(10,.box (qj.c c70.1))]) (zk:=11) rfl rfl (bw (c:=qk.c) (L:=n0x.T) (x:=x934) (x':=c66) rfl hx934 rfl rfl rfl rfl rfl) rfl rfl (aH rfl (az qv ?_)))))))))))))
     refine af rfl (ae (.ptr 8 1) (ae (.int .i64 x49.To) (ae (.agg (zy.c p2)) ?_)))
     rcases wy gg31 with ⟨_,gg31⟩ | ⟨c120,hc120,gg31⟩
     ·subst gg31
      first | replace hR:=wz hR | replace hR:=aJ hR
      cases hR
     try dsimp only at gg31
     try dsimp only at gg31
     refine bd (r':=.tup []) (zj:=[(0,.box [.own 11 1 0 c120.T.length,.own 12 1 0 c120.Sel.length,.ro 3 (c120.L.map zz.c),.own 13 3 0 c120.Work.length,.bool c120.Over]),(7,.box (qj.c c24.1)),(8,.box (zz.c x49)),(9,.box (qk.c c66)),(10,.box (qj.c c70.1)),(13,.row 3 108 (c120.Work.map zw.c)),(12,.row 1 34 (c120.Sel.map (wv 10 qj.c))),(11,.row 1 36 (c120.T.map qk.c))]) (zk:=14) [0,4,5,6] [] rfl rfl rfl rfl rfl rfl (by have hst:=(f68_ok (⟨(n0x.T.set x49.To.toNat c66),n0x.Sel,n0x.L,n0x.Work,n0x.Over⟩ : TNet) x49.To p2 _ hc120); simp only [List.length_set] at hst; exact hst) (.inl rfl) rfl rfl rfl (aa ?_)
     refine aB (am (hK33 _ ?_))
     refine az qv (ar (v':=.int .i64 ((i49 + 1:Nat):Int)) rfl rfl rfl rfl (congrArg (PVal.int .i64) (aO hlt31 ge31)) (af rfl (aa ?_)))
     refine aB (am ?_)
     refine ga31 _ (n0.L.length - (i49 + 1)) _ (by omega) ?_ ⟨i49 + 1,is7,c120,(by omega),rfl,gg31,rfl⟩
     exact bm [0,1,2,3,11,12,13,7] [] [0,4,5,6,7,47,48,49] rfl rfl (qx rfl rfl (qx rfl rfl (qx rfl rfl (qx rfl rfl (qx rfl rfl (qx rfl rfl (qx rfl rfl (qx rfl rfl qy)))))))) rfl rfl
    ·rw [hb37]; try simp only [hb37,bb] at gg31
     refine aq rfl (aA ?_)
     refine aB (am (hK33 _ ?_))
     refine az qv (ar (v':=.int .i64 ((i49 + 1:Nat):Int)) rfl rfl rfl rfl (congrArg (PVal.int .i64) (aO hlt31 ge31)) (af rfl (aa ?_)))
     refine aB (am ?_)
     refine ga31 _ (n0.L.length - (i49 + 1)) _ (by omega) ?_ ⟨i49 + 1,is7,n0x,(by omega),rfl,gg31,rfl⟩
     exact bm [0,1,2,3,4,5,6,7] [] [0,4,5,6,7,47,48,49] rfl rfl (qx rfl rfl (qx rfl rfl (qx rfl rfl (qx rfl rfl (qx rfl rfl (qx rfl rfl (qx rfl rfl (qx rfl rfl qy)))))))) rfl rfl
   ·rw [hb36]; try simp only [hb36,bb] at gg31
    refine af rfl (ae (.bool is7) (aa ?_))
    rcases qq (is7) with hb39 | hb39
    ·rw [hb39]; try simp only [hb39,bb] at gg31
     refine aq rfl (aA (ak (aE qv (au (.ptr 9 0) (au (.ro 10 (c66.L.map qj.c)) (aG rfl (au (.ptr 0 0) (au (.ptr 0 0) (au (.own 4 1 0 n0x.T.length) (au (.ptr 8 1) (au (.int .i64 x49.To) (aF (v':=.eptr 4 1 x49.To.toNat 0) rfl rfl rfl (aK (c:=qk.c) (L:=n0x.T) (j:=x49.To.toNat) rfl hx934j hx934l (by exact Nat.le_refl _)) rfl (aF (v':=.eptr 4 1 x49.To.toNat 0) rfl rfl rfl (cy (c:=qk.c) (L:=n0x.T) rfl (by omega) rfl) rfl ?_)))))))))))))
     refine aF (v':=.ro 10 (x934.L.map qj.c)) rfl rfl rfl (bf (c:=qk.c) (L:=n0x.T) (x:=x934) rfl hx934 rfl) rfl ?_
     generalize hc106:F56 c66.L x934.L (fun y0 y1=>F57 y0 y1) = c106 at gg31
     try dsimp only at gg31
     refine aL (r:=.bool c106) rfl rfl rfl (f56_ok c66.L x934.L 57 [] [] (fun y0 y1=>F57 y0 y1) ⟨rfl,rfl⟩ (fun y0 y1 _ hr=>f57_ok y0 y1 _ hr) _ hc106) rfl rfl (au (.bool (!c106)) (aH rfl ?_))
     rcases qq (c106) with hb40 | hb40
     ·rw [hb40]; try simp only [hb40,bb] at gg31
      refine ap rfl (ak (aE qv (aG rfl (au (.ptr 0 0) (au (.ptr 0 0) (au (.own 4 1 0 n0x.T.length) (au (.ptr 8 1) (au (.int .i64 x49.To) (au (.agg (qk.c c66)) (aF (v':=.eptr 4 1 x49.To.toNat 0) rfl rfl rfl (aK (c:=qk.c) (L:=n0x.T) (j:=x49.To.toNat) rfl hx934j hx934l (by exact Nat.le_refl _)) rfl (aV (zj:=[(0,.box [.own 4 1 0 n0x.T.length,.own 5 1 0 n0x.Sel.length,.ro 3 (n0x.L.map zz.c),.own 6 3 0 n0x.Work.length,.bool n0x.Over]),(4,.row 1 36 ((n0x.T.set x49.To.toNat c66).map qk.c)),(5,.row 1 34 (n0x.Sel.map (wv 10 qj.c))),(6,.row 3 108 (n0x.Work.map zw.c)),(7,.box (qj.c c24.1)),(8,.box (zz.c x49)),(9,.box (qk.c c66)),(10,.box (qj.c c70.1))]) (zk:=11) rfl rfl (bw (c:=qk.c) (L:=n0x.T) (x:=x934) (x':=c66) rfl hx934 rfl rfl rfl rfl rfl) rfl rfl (aH rfl (az qv ?_)))))))))))))
      refine af rfl (ae (.ptr 8 1) (ae (.int .i64 x49.To) (ae (.agg (zy.c p2)) ?_)))
      rcases wy gg31 with ⟨_,gg31⟩ | ⟨c120,hc120,gg31⟩
      ·subst gg31
       first | replace hR:=wz hR | replace hR:=aJ hR
       cases hR
      try dsimp only at gg31
      try dsimp only at gg31
      refine bd (r':=.tup []) (zj:=[(0,.box [.own 11 1 0 c120.T.length,.own 12 1 0 c120.Sel.length,.ro 3 (c120.L.map zz.c),.own 13 3 0 c120.Work.length,.bool c120.Over]),(7,.box (qj.c c24.1)),(8,.box (zz.c x49)),(9,.box (qk.c c66)),(10,.box (qj.c c70.1)),(13,.row 3 108 (c120.Work.map zw.c)),(12,.row 1 34 (c120.Sel.map (wv 10 qj.c))),(11,.row 1 36 (c120.T.map qk.c))]) (zk:=14) [0,4,5,6] [] rfl rfl rfl rfl rfl rfl (by have hst:=(f68_ok (⟨(n0x.T.set x49.To.toNat c66),n0x.Sel,n0x.L,n0x.Work,n0x.Over⟩ : TNet) x49.To p2 _ hc120); simp only [List.length_set] at hst; exact hst) (.inl rfl) rfl rfl rfl (aa ?_)
      refine aB (am (hK33 _ ?_))
      refine az qv (ar (v':=.int .i64 ((i49 + 1:Nat):Int)) rfl rfl rfl rfl (congrArg (PVal.int .i64) (aO hlt31 ge31)) (af rfl (aa ?_)))
      refine aB (am ?_)
      refine ga31 _ (n0.L.length - (i49 + 1)) _ (by omega) ?_ ⟨i49 + 1,false,c120,(by omega),rfl,gg31,rfl⟩
      exact bm [0,1,2,3,11,12,13,7] [] [0,4,5,6,7,47,48,49] rfl rfl (qx rfl rfl (qx rfl rfl (qx rfl rfl (qx rfl rfl (qx rfl rfl (qx rfl rfl (qx rfl rfl (qx rfl rfl qy)))))))) rfl rfl
     ·rw [hb40]; try simp only [hb40,bb] at gg31
      refine aq rfl (aA ?_)
      refine aB (am (hK33 _ ?_))
      refine az qv (ar (v':=.int .i64 ((i49 + 1:Nat):Int)) rfl rfl rfl rfl (congrArg (PVal.int .i64) (aO hlt31 ge31)) (af rfl (aa ?_)))
      refine aB (am ?_)
      refine ga31 _ (n0.L.length - (i49 + 1)) _ (by omega) ?_ ⟨i49 + 1,false,n0x,(by omega),rfl,gg31,rfl⟩
      exact bm [0,1,2,3,4,5,6,7] [] [0,4,5,6,7,47,48,49] rfl rfl (qx rfl rfl (qx rfl rfl (qx rfl rfl (qx rfl rfl (qx rfl rfl (qx rfl rfl (qx rfl rfl (qx rfl rfl qy)))))))) rfl rfl
    ·rw [hb39]; try simp only [hb39,bb] at gg31
     refine ap rfl (ah qv (ae (.agg (qk.c c66)) (ae (.agg (qj.c c70.1)) ?_)))
     rcases wy gg31 with ⟨_,gg31⟩ | ⟨c80,hc80,gg31⟩
     ·subst gg31
      first | replace hR:=wz hR | replace hR:=aJ hR
      cases hR
     try dsimp only at gg31
     refine av (r:=.tup [.agg [.ro 10 (c80.1.L.map qj.c)],.int .i64 c80.2]) rfl rfl rfl (f48_ok c66 c70.1 _ hc80) rfl rfl (af rfl (ae (.agg [.ro 10 (c80.1.L.map qj.c)]) (ae (.int .i64 c80.2) (aw (v':=.ptr 11 0) (zj:=[(0,.box [.own 4 1 0 n0x.T.length,.own 5 1 0 n0x.Sel.length,.ro 3 (n0x.L.map zz.c),.own 6 3 0 n0x.Work.length,.bool n0x.Over]),(4,.row 1 36 (n0x.T.map qk.c)),(5,.row 1 34 (n0x.Sel.map (wv 10 qj.c))),(6,.row 3 108 (n0x.Work.map zw.c)),(7,.box (qj.c c24.1)),(8,.box (zz.c x49)),(9,.box (qk.c c66)),(10,.box (qj.c c70.1)),(11,.box [.nils])]) (zk:=12) rfl rfl rfl rfl rfl rfl rfl (ay (zj:=[(0,.box [.own 4 1 0 n0x.T.length,.own 5 1 0 n0x.Sel.length,.ro 3 (n0x.L.map zz.c),.own 6 3 0 n0x.Work.length,.bool n0x.Over]),(4,.row 1 36 (n0x.T.map qk.c)),(5,.row 1 34 (n0x.Sel.map (wv 10 qj.c))),(6,.row 3 108 (n0x.Work.map zw.c)),(7,.box (qj.c c24.1)),(8,.box (zz.c x49)),(9,.box (qk.c c66)),(10,.box (qj.c c70.1)),(11,.box (qk.c c80.1))]) (zk:=12) rfl rfl rfl rfl rfl (af rfl (aa (aE qv (aG rfl (au (.agg (qk.c c80.1)) (aG rfl (au (.ptr 0 0) (au (.ptr 0 4) ?_)))))))))))))
     refine au (.bool n0x.Over) (aG rfl ?_)
     rcases qq (n0x.Over) with hb42 | hb42
     ·rw [hb42]; try simp only [hb42,bb] at gg31
      refine aG rfl (au (.bool (!decide (c80.2 = 0))) (au (.bool (!decide (c80.2 = 0))) (aV (zj:=[(0,.box [.own 4 1 0 n0x.T.length,.own 5 1 0 n0x.Sel.length,.ro 3 (n0x.L.map zz.c),.own 6 3 0 n0x.Work.length,.bool false]),(4,.row 1 36 (n0x.T.map qk.c)),(5,.row 1 34 (n0x.Sel.map (wv 10 qj.c))),(6,.row 3 108 (n0x.Work.map zw.c)),(7,.box (qj.c c24.1)),(8,.box (zz.c x49)),(9,.box (qk.c c80.1)),(10,.box (qj.c c70.1)),(11,.box (qk.c c80.1))]) (zk:=12) rfl rfl rfl rfl rfl (au (.ptr 0 0) (au (.ptr 0 4) (aV (zj:=[(0,.box [.own 4 1 0 n0x.T.length,.own 5 1 0 n0x.Sel.length,.ro 3 (n0x.L.map zz.c),.own 6 3 0 n0x.Work.length,.bool (!decide (c80.2 = 0))]),(4,.row 1 36 (n0x.T.map qk.c)),(5,.row 1 34 (n0x.Sel.map (wv 10 qj.c))),(6,.row 3 108 (n0x.Work.map zw.c)),(7,.box (qj.c c24.1)),(8,.box (zz.c x49)),(9,.box (qk.c c80.1)),(10,.box (qj.c c70.1)),(11,.box (qk.c c80.1))]) (zk:=12) rfl rfl rfl rfl rfl (aH rfl (ak (aE qv (au (.ptr 9 0) (au (.ro 10 (c80.1.L.map qj.c)) (aG rfl (au (.ptr 0 0) (au (.ptr 0 0) ?_))))))))))))))
      refine au (.own 4 1 0 n0x.T.length) (au (.ptr 8 1) (au (.int .i64 x49.To) (aF (v':=.eptr 4 1 x49.To.toNat 0) rfl rfl rfl (aK (c:=qk.c) (L:=n0x.T) (j:=x49.To.toNat) rfl hx934j hx934l (by exact Nat.le_refl _)) rfl (aF (v':=.eptr 4 1 x49.To.toNat 0) rfl rfl rfl (cy (c:=qk.c) (L:=n0x.T) rfl (by omega) rfl) rfl (aF (v':=.ro 10 (x934.L.map qj.c)) rfl rfl rfl (bf (c:=qk.c) (L:=n0x.T) (x:=x934) rfl hx934 rfl) rfl ?_)))))
      generalize hc106:F56 c80.1.L x934.L (fun y0 y1=>F57 y0 y1) = c106 at gg31
      try dsimp only at gg31
      refine aL (r:=.bool c106) rfl rfl rfl (f56_ok c80.1.L x934.L 57 [] [] (fun y0 y1=>F57 y0 y1) ⟨rfl,rfl⟩ (fun y0 y1 _ hr=>f57_ok y0 y1 _ hr) _ hc106) rfl rfl (au (.bool (!c106)) (aH rfl ?_))
      rcases qq (c106) with hb43 | hb43
      ·rw [hb43]; try simp only [hb43,bb] at gg31
       refine ap rfl (ak (aE qv (aG rfl (au (.ptr 0 0) (au (.ptr 0 0) (au (.own 4 1 0 n0x.T.length) (au (.ptr 8 1) (au (.int .i64 x49.To) (au (.agg (qk.c c80.1)) (aF (v':=.eptr 4 1 x49.To.toNat 0) rfl rfl rfl (aK (c:=qk.c) (L:=n0x.T) (j:=x49.To.toNat) rfl hx934j hx934l (by exact Nat.le_refl _)) rfl (aV (zj:=[(0,.box [.own 4 1 0 n0x.T.length,.own 5 1 0 n0x.Sel.length,.ro 3 (n0x.L.map zz.c),.own 6 3 0 n0x.Work.length,.bool (!decide (c80.2 = 0))]),(4,.row 1 36 ((n0x.T.set x49.To.toNat c80.1).map qk.c)),(5,.row 1 34 (n0x.Sel.map (wv 10 qj.c))),(6,.row 3 108 (n0x.Work.map zw.c)),(7,.box (qj.c c24.1)),(8,.box (zz.c x49)),(9,.box (qk.c c80.1)),(10,.box (qj.c c70.1)),(11,.box (qk.c c80.1))]) (zk:=12) rfl rfl (bw (c:=qk.c) (L:=n0x.T) (x:=x934) (x':=c80.1) rfl hx934 rfl rfl rfl rfl rfl) rfl rfl (aH rfl (az qv ?_)))))))))))))
       refine af rfl (ae (.ptr 8 1) (ae (.int .i64 x49.To) (ae (.agg (zy.c p2)) ?_)))
       rcases wy gg31 with ⟨_,gg31⟩ | ⟨c120,hc120,gg31⟩
       ·subst gg31
        first | replace hR:=wz hR | replace hR:=aJ hR
        cases hR
       try dsimp only at gg31
       try dsimp only at gg31
       refine bd (r':=.tup []) (zj:=[(0,.box [.own 12 1 0 c120.T.length,.own 13 1 0 c120.Sel.length,.ro 3 (c120.L.map zz.c),.own 14 3 0 c120.Work.length,.bool c120.Over]),(7,.box (qj.c c24.1)),(8,.box (zz.c x49)),(9,.box (qk.c c80.1)),(10,.box (qj.c c70.1)),(11,.box (qk.c c80.1)),(14,.row 3 108 (c120.Work.map zw.c)),(13,.row 1 34 (c120.Sel.map (wv 10 qj.c))),(12,.row 1 36 (c120.T.map qk.c))]) (zk:=15) [0,4,5,6] [] rfl rfl rfl rfl rfl rfl (by have hst:=(f68_ok (⟨(n0x.T.set x49.To.toNat c80.1),n0x.Sel,n0x.L,n0x.Work,!decide (c80.2 = 0)⟩ : TNet) x49.To p2 _ hc120); simp only [List.length_set] at hst; exact hst) (.inl rfl) rfl rfl rfl (aa ?_)
       refine aB (am (hK33 _ ?_))
       refine az qv (ar (v':=.int .i64 ((i49 + 1:Nat):Int)) rfl rfl rfl rfl (congrArg (PVal.int .i64) (aO hlt31 ge31)) (af rfl (aa ?_)))
       refine aB (am ?_)
       refine ga31 _ (n0.L.length - (i49 + 1)) _ (by omega) ?_ ⟨i49 + 1,true,c120,(by omega),rfl,gg31,rfl⟩
       exact bm [0,1,2,3,12,13,14,7] [] [0,4,5,6,7,47,48,49] rfl rfl (qx rfl rfl (qx rfl rfl (qx rfl rfl (qx rfl rfl (qx rfl rfl (qx rfl rfl (qx rfl rfl (qx rfl rfl qy)))))))) rfl rfl
      ·rw [hb43]; try simp only [hb43,bb] at gg31
       refine aq rfl (aA ?_)
       refine aB (am (hK33 _ ?_))
       refine az qv (ar (v':=.int .i64 ((i49 + 1:Nat):Int)) rfl rfl rfl rfl (congrArg (PVal.int .i64) (aO hlt31 ge31)) (af rfl (aa ?_)))
       refine aB (am ?_)
       refine ga31 _ (n0.L.length - (i49 + 1)) _ (by omega) ?_ ⟨i49 + 1,true,(⟨n0x.T,n0x.Sel,n0x.L,n0x.Work,!decide (c80.2 = 0)⟩ : TNet),(by omega),rfl,gg31,rfl⟩
       exact bm [0,1,2,3,4,5,6,7] [] [0,4,5,6,7,47,48,49] rfl rfl (qx rfl rfl (qx rfl rfl (qx rfl rfl (qx rfl rfl (qx rfl rfl (qx rfl rfl (qx rfl rfl (qx rfl rfl qy)))))))) rfl rfl
     ·rw [hb42]; try simp only [hb42,bb] at gg31
      refine bE rfl rfl (bE rfl rfl (au (.bool true) (aV (zj:=[(0,.box [.own 4 1 0 n0x.T.length,.own 5 1 0 n0x.Sel.length,.ro 3 (n0x.L.map zz.c),.own 6 3 0 n0x.Work.length,.bool true]),(4,.row 1 36 (n0x.T.map qk.c)),(5,.row 1 34 (n0x.Sel.map (wv 10 qj.c))),(6,.row 3 108 (n0x.Work.map zw.c)),(7,.box (qj.c c24.1)),(8,.box (zz.c x49)),(9,.box (qk.c c80.1)),(10,.box (qj.c c70.1)),(11,.box (qk.c c80.1))]) (zk:=12) rfl rfl rfl rfl rfl (au (.ptr 0 0) (au (.ptr 0 4) (aV (zj:=[(0,.box [.own 4 1 0 n0x.T.length,.own 5 1 0 n0x.Sel.length,.ro 3 (n0x.L.map zz.c),.own 6 3 0 n0x.Work.length,.bool true]),(4,.row 1 36 (n0x.T.map qk.c)),(5,.row 1 34 (n0x.Sel.map (wv 10 qj.c))),(6,.row 3 108 (n0x.Work.map zw.c)),(7,.box (qj.c c24.1)),(8,.box (zz.c x49)),(9,.box (qk.c c80.1)),(10,.box (qj.c c70.1)),(11,.box (qk.c c80.1))]) (zk:=12) rfl rfl rfl rfl rfl (aH rfl (ak (aE qv (au (.ptr 9 0) (au (.ro 10 (c80.1.L.map qj.c)) (aG rfl (au (.ptr 0 0) (au (.ptr 0 0) ?_))))))))))))))
      refine au (.own 4 1 0 n0x.T.length) (au (.ptr 8 1) (au (.int .i64 x49.To) (aF (v':=.eptr 4 1 x49.To.toNat 0) rfl rfl rfl (aK (c:=qk.c) (L:=n0x.T) (j:=x49.To.toNat) rfl hx934j hx934l (by exact Nat.le_refl _)) rfl (aF (v':=.eptr 4 1 x49.To.toNat 0) rfl rfl rfl (cy (c:=qk.c) (L:=n0x.T) rfl (by omega) rfl) rfl (aF (v':=.ro 10 (x934.L.map qj.c)) rfl rfl rfl (bf (c:=qk.c) (L:=n0x.T) (x:=x934) rfl hx934 rfl) rfl ?_)))))
      generalize hc106:F56 c80.1.L x934.L (fun y0 y1=>F57 y0 y1) = c106 at gg31
      try dsimp only at gg31
      refine aL (r:=.bool c106) rfl rfl rfl (f56_ok c80.1.L x934.L 57 [] [] (fun y0 y1=>F57 y0 y1) ⟨rfl,rfl⟩ (fun y0 y1 _ hr=>f57_ok y0 y1 _ hr) _ hc106) rfl rfl (au (.bool (!c106)) (aH rfl ?_))
      rcases qq (c106) with hb45 | hb45
      ·rw [hb45]; try simp only [hb45,bb] at gg31
       refine ap rfl (ak (aE qv (aG rfl (au (.ptr 0 0) (au (.ptr 0 0) (au (.own 4 1 0 n0x.T.length) (au (.ptr 8 1) (au (.int .i64 x49.To) (au (.agg (qk.c c80.1)) (aF (v':=.eptr 4 1 x49.To.toNat 0) rfl rfl rfl (aK (c:=qk.c) (L:=n0x.T) (j:=x49.To.toNat) rfl hx934j hx934l (by exact Nat.le_refl _)) rfl (aV (zj:=[(0,.box [.own 4 1 0 n0x.T.length,.own 5 1 0 n0x.Sel.length,.ro 3 (n0x.L.map zz.c),.own 6 3 0 n0x.Work.length,.bool true]),(4,.row 1 36 ((n0x.T.set x49.To.toNat c80.1).map qk.c)),(5,.row 1 34 (n0x.Sel.map (wv 10 qj.c))),(6,.row 3 108 (n0x.Work.map zw.c)),(7,.box (qj.c c24.1)),(8,.box (zz.c x49)),(9,.box (qk.c c80.1)),(10,.box (qj.c c70.1)),(11,.box (qk.c c80.1))]) (zk:=12) rfl rfl (bw (c:=qk.c) (L:=n0x.T) (x:=x934) (x':=c80.1) rfl hx934 rfl rfl rfl rfl rfl) rfl rfl (aH rfl (az qv ?_)))))))))))))
       refine af rfl (ae (.ptr 8 1) (ae (.int .i64 x49.To) (ae (.agg (zy.c p2)) ?_)))
       rcases wy gg31 with ⟨_,gg31⟩ | ⟨c120,hc120,gg31⟩
       ·subst gg31
        first | replace hR:=wz hR | replace hR:=aJ hR
        cases hR
       try dsimp only at gg31
       try dsimp only at gg31
       refine bd (r':=.tup []) (zj:=[(0,.box [.own 12 1 0 c120.T.length,.own 13 1 0 c120.Sel.length,.ro 3 (c120.L.map zz.c),.own 14 3 0 c120.Work.length,.bool c120.Over]),(7,.box (qj.c c24.1)),(8,.box (zz.c x49)),(9,.box (qk.c c80.1)),(10,.box (qj.c c70.1)),(11,.box (qk.c c80.1)),(14,.row 3 108 (c120.Work.map zw.c)),(13,.row 1 34 (c120.Sel.map (wv 10 qj.c))),(12,.row 1 36 (c120.T.map qk.c))]) (zk:=15) [0,4,5,6] [] rfl rfl rfl rfl rfl rfl (by have hst:=(f68_ok (⟨(n0x.T.set x49.To.toNat c80.1),n0x.Sel,n0x.L,n0x.Work,true⟩ : TNet) x49.To p2 _ hc120); simp only [List.length_set] at hst; exact hst) (.inl rfl) rfl rfl rfl (aa ?_)
       refine aB (am (hK33 _ ?_))
       refine az qv (ar (v':=.int .i64 ((i49 + 1:Nat):Int)) rfl rfl rfl rfl (congrArg (PVal.int .i64) (aO hlt31 ge31)) (af rfl (aa ?_)))
       refine aB (am ?_)
       refine ga31 _ (n0.L.length - (i49 + 1)) _ (by omega) ?_ ⟨i49 + 1,true,c120,(by omega),rfl,gg31,rfl⟩
       exact bm [0,1,2,3,12,13,14,7] [] [0,4,5,6,7,47,48,49] rfl rfl (qx rfl rfl (qx rfl rfl (qx rfl rfl (qx rfl rfl (qx rfl rfl (qx rfl rfl (qx rfl rfl (qx rfl rfl qy)))))))) rfl rfl
      ·rw [hb45]; try simp only [hb45,bb] at gg31
       refine aq rfl (aA ?_)
       refine aB (am (hK33 _ ?_))
       refine az qv (ar (v':=.int .i64 ((i49 + 1:Nat):Int)) rfl rfl rfl rfl (congrArg (PVal.int .i64) (aO hlt31 ge31)) (af rfl (aa ?_)))
       refine aB (am ?_)
       refine ga31 _ (n0.L.length - (i49 + 1)) _ (by omega) ?_ ⟨i49 + 1,true,(⟨n0x.T,n0x.Sel,n0x.L,n0x.Work,true⟩ : TNet),(by omega),rfl,gg31,rfl⟩
       exact bm [0,1,2,3,4,5,6,7] [] [0,4,5,6,7,47,48,49] rfl rfl (qx rfl rfl (qx rfl rfl (qx rfl rfl (qx rfl rfl (qx rfl rfl (qx rfl rfl (qx rfl rfl (qx rfl rfl qy)))))))) rfl rfl
theorem f28_ok (n0:TNet) (i1:Int) (R:TNet × Bool) (hR:F28 n0 i1 = some R):FnOk Tryz.prog 28 [.agg (TNet.c n0),.int .i64 i1] [] 0 (.tup [.agg (TNet.c R.1),.bool R.2]) [] 0:=by
 refine FnOk.wk i28 rfl rfl ?_
 unfold F28 at hR
 try dsimp only at hR
 change WK _ _ _ [ac28] _ ⟨[(0,.agg (TNet.c n0)),(1,.int .i64 i1)],[],0⟩
 unfold ac28
 refine ah qv (aw (v':=.ptr 0 0) (zj:=[(0,.box (TNet.c n0))]) (zk:=1) rfl rfl rfl rfl rfl rfl rfl (aw (v':=.ptr 1 0) (zj:=[(0,.box (TNet.c n0)),(1,.box [.nils,.nils,.nils,.nils,.bool false])]) (zk:=2) rfl rfl rfl rfl rfl rfl rfl (af rfl (aa (ak (ah qv (ae (.ptr 0 3) (ae (.ro 3 (n0.Work.map zw.c)) (ar (v':=.int .i64 (n0.Work.length:Int)) rfl rfl rfl rfl (ww _ _) (ae (.bool (decide ((n0.Work.length:Int) = 0))) (aa ?_)))))))))))
 rcases qq (decide ((n0.Work.length:Int) = 0)) with hb1 | hb1
 ·rw [hb1]; first | replace hR:=kw hb1 hR | (try simp only [hb1,bb] at hR)
  refine aq rfl (aA (ah qv (ae (.agg (TNet.c n0)) ?_)))
  obtain ⟨c15,hc15,hR⟩:=wx hR; try dsimp only at hR
  try dsimp only at hR
  refine bd (r':=.ptr 2 0) (zj:=[(0,.box (TNet.c n0)),(1,.box [.nils,.nils,.nils,.nils,.bool false]),(6,.row 3 108 (c15.Work.map zw.c)),(5,.row 3 84 (c15.L.map zz.c)),(4,.row 1 34 (c15.Sel.map (wv 10 qj.c))),(3,.row 1 36 (c15.T.map qk.c)),(2,.box [.own 3 1 0 c15.T.length,.own 4 1 0 c15.Sel.length,.own 5 3 0 c15.L.length,.own 6 3 0 c15.Work.length,.bool c15.Over])]) (zk:=7) [] [] rfl rfl rfl rfl rfl rfl (f41_ok n0 _ hc15) (.inl rfl) rfl rfl rfl (af rfl (aa (ah qv (af rfl (ae (.int .i64 (max_ i1 0)) (af rfl (ae (.ptr 2 0) (ae (.ptr 2 3) (ae (.own 6 3 0 c15.Work.length) (ae (.int .i64 (c15.Work.length:Int)) ?_))))))))))
  obtain ⟨hg3,hg3_,hR⟩:=gd hR; try dsimp only at hR
  refine ar (v':=.int .i64 (Int.tmod (max_ i1 0) (c15.Work.length:Int))) rfl rfl rfl (core_remT (by omega)) rfl (af rfl (aa (ah qv (af rfl (ae (.ptr 2 0) (ae (.ptr 2 3) (ae (.own 6 3 0 c15.Work.length) (af rfl ?_))))))))
  obtain ⟨x903,hx903,hR⟩:=wx hR; try dsimp only at hR
  obtain ⟨hx9030,hx903j,hx903l,hx903⟩:=ky hx903
  refine ar (v':=.eptr 6 3 ((Int.tmod (max_ i1 0) (c15.Work.length:Int)).toNat) 0) rfl rfl rfl (aK (c:=zw.c) (L:=c15.Work) (j:=(Int.tmod (max_ i1 0) (c15.Work.length:Int)).toNat) rfl hx903j hx903l (by exact Nat.le_refl _)) rfl (ar (v':=.agg (zw.c x903)) rfl rfl rfl (bf (c:=zw.c) (L:=c15.Work) (x:=x903) rfl hx903 rfl) rfl (aw (v':=.ptr 7 0) (zj:=[(0,.box (TNet.c n0)),(1,.box [.nils,.nils,.nils,.nils,.bool false]),(6,.row 3 108 (c15.Work.map zw.c)),(5,.row 3 84 (c15.L.map zz.c)),(4,.row 1 34 (c15.Sel.map (wv 10 qj.c))),(3,.row 1 36 (c15.T.map qk.c)),(2,.box [.own 3 1 0 c15.T.length,.own 4 1 0 c15.Sel.length,.own 5 3 0 c15.L.length,.own 6 3 0 c15.Work.length,.bool c15.Over]),(7,.box [.int .i64 0,.int .u32 0,.int .i64 0])]) (zk:=8) rfl rfl rfl rfl rfl rfl rfl (ay (zj:=[(0,.box (TNet.c n0)),(1,.box [.nils,.nils,.nils,.nils,.bool false]),(6,.row 3 108 (c15.Work.map zw.c)),(5,.row 3 84 (c15.L.map zz.c)),(4,.row 1 34 (c15.Sel.map (wv 10 qj.c))),(3,.row 1 36 (c15.T.map qk.c)),(2,.box [.own 3 1 0 c15.T.length,.own 4 1 0 c15.Sel.length,.own 5 3 0 c15.L.length,.own 6 3 0 c15.Work.length,.bool c15.Over]),(7,.box (zw.c x903))]) (zk:=8) rfl rfl rfl rfl rfl (aa (ah qv (af rfl (af rfl (ae (.ptr 2 0) (ae (.ptr 2 3) (ae (.own 6 3 0 c15.Work.length) (af rfl (af rfl (ae (.int .i64 (IntKind.i64.wrap ((Int.tmod (max_ i1 0) (c15.Work.length:Int)) + 1))) ?_)))))))))))))
  obtain ⟨hg5,hg5_,hR⟩:=gd hR; try dsimp only at hR
  obtain ⟨hg6,hg6_,hR⟩:=gd hR; try dsimp only at hR
  obtain ⟨hg7,hg7_,hR⟩:=gd hR; try dsimp only at hR
  obtain ⟨hg8,hg8_,hR⟩:=gd hR; try dsimp only at hR
  refine bd (r':=.own 8 3 0 (bY c15.Work (Int.tmod (max_ i1 0) (c15.Work.length:Int)) (IntKind.i64.wrap ((Int.tmod (max_ i1 0) (c15.Work.length:Int)) + 1))).length) (zj:=[(0,.box (TNet.c n0)),(1,.box [.nils,.nils,.nils,.nils,.bool false]),(5,.row 3 84 (c15.L.map zz.c)),(4,.row 1 34 (c15.Sel.map (wv 10 qj.c))),(3,.row 1 36 (c15.T.map qk.c)),(2,.box [.own 3 1 0 c15.T.length,.own 4 1 0 c15.Sel.length,.own 5 3 0 c15.L.length,.own 6 3 0 c15.Work.length,.bool c15.Over]),(7,.box (zw.c x903)),(8,.row 3 108 ((bY c15.Work (Int.tmod (max_ i1 0) (c15.Work.length:Int)) (IntKind.i64.wrap ((Int.tmod (max_ i1 0) (c15.Work.length:Int)) + 1))).map zw.c))]) (zk:=9) [6] [] rfl rfl rfl rfl rfl rfl (dM (c:=zw.c) (fun _=>rfl) qv i70 c15.Work (Int.tmod (max_ i1 0) (c15.Work.length:Int)) (IntKind.i64.wrap ((Int.tmod (max_ i1 0) (c15.Work.length:Int)) + 1)) rfl (by omega) (by omega) (by omega) (by omega)) (.inl rfl) rfl rfl rfl (ae (.ptr 2 0) (ae (.ptr 2 3) (ay (zj:=[(0,.box (TNet.c n0)),(1,.box [.nils,.nils,.nils,.nils,.bool false]),(5,.row 3 84 (c15.L.map zz.c)),(4,.row 1 34 (c15.Sel.map (wv 10 qj.c))),(3,.row 1 36 (c15.T.map qk.c)),(2,.box [.own 3 1 0 c15.T.length,.own 4 1 0 c15.Sel.length,.own 5 3 0 c15.L.length,.own 8 3 0 (bY c15.Work (Int.tmod (max_ i1 0) (c15.Work.length:Int)) (IntKind.i64.wrap ((Int.tmod (max_ i1 0) (c15.Work.length:Int)) + 1))).length,.bool c15.Over]),(7,.box (zw.c x903)),(8,.row 3 108 ((bY c15.Work (Int.tmod (max_ i1 0) (c15.Work.length:Int)) (IntKind.i64.wrap ((Int.tmod (max_ i1 0) (c15.Work.length:Int)) + 1))).map zw.c))]) (zk:=9) rfl rfl rfl rfl rfl (aa (ak ?_)))))
  refine bz (st':=⟨[(4,.ptr 0 0),(6,.ptr 1 0),(8,.ptr 5 0)],[(0,.box [.nils,.nils,.nils,.nils,.bool false]),(1,.box [.own 2 1 0 c15.T.length,.own 3 1 0 c15.Sel.length,.ro 3 (c15.L.map zz.c),.own 4 3 0 (bY c15.Work (Int.tmod (max_ i1 0) (c15.Work.length:Int)) (IntKind.i64.wrap ((Int.tmod (max_ i1 0) (c15.Work.length:Int)) + 1))).length,.bool c15.Over]),(2,.row 1 36 (c15.T.map qk.c)),(3,.row 1 34 (c15.Sel.map (wv 10 qj.c))),(4,.row 3 108 ((bY c15.Work (Int.tmod (max_ i1 0) (c15.Work.length:Int)) (IntKind.i64.wrap ((Int.tmod (max_ i1 0) (c15.Work.length:Int)) + 1))).map zw.c)),(5,.box (zw.c x903))],6⟩) (Conv.keep [1,2,3,4,8,7] [5] [4,6,8] rfl rfl (qx rfl rfl (qx rfl rfl (qx rfl rfl qy))) (kx rfl rfl (kx rfl (bN (qz rfl (qz rfl (qz (aN rfl rfl) (qz rfl (qz rfl qw)))))) (kx rfl rfl (kx rfl rfl (kx rfl rfl (kx rfl rfl cE)))))) rfl) ?_ (by simp)
  refine az qv (af rfl (ae (.ptr 5 0) (ae (.int .i64 x903.At) (ae (.ptr 5 1) (ae (.agg (zy.c x903.P)) ?_)))))
  obtain ⟨c47,hc47,hR⟩:=wx hR; try dsimp only at hR
  try dsimp only at hR
  refine bd (r':=.tup []) (zj:=[(0,.box [.nils,.nils,.nils,.nils,.bool false]),(1,.box [.own 6 1 0 c47.T.length,.own 7 1 0 c47.Sel.length,.ro 3 (c47.L.map zz.c),.own 8 3 0 c47.Work.length,.bool c47.Over]),(5,.box (zw.c x903)),(8,.row 3 108 (c47.Work.map zw.c)),(7,.row 1 34 (c47.Sel.map (wv 10 qj.c))),(6,.row 1 36 (c47.T.map qk.c))]) (zk:=9) [1,2,3,4] [] rfl rfl rfl rfl rfl rfl (f71_ok (⟨c15.T,c15.Sel,c15.L,(bY c15.Work (Int.tmod (max_ i1 0) (c15.Work.length:Int)) (IntKind.i64.wrap ((Int.tmod (max_ i1 0) (c15.Work.length:Int)) + 1))),c15.Over⟩ : TNet) x903.At x903.P _ hc47) (.inl rfl) rfl rfl rfl (aa (ah qv (af rfl (ae (.ptr 1 0) (ae (.agg [.own 6 1 0 c47.T.length,.own 7 1 0 c47.Sel.length,.ro 3 (c47.L.map zz.c),.own 8 3 0 c47.Work.length,.bool c47.Over]) (ay (zj:=[(0,.box [.own 6 1 0 c47.T.length,.own 7 1 0 c47.Sel.length,.ro 3 (c47.L.map zz.c),.own 8 3 0 c47.Work.length,.bool c47.Over]),(1,.box [.own 6 1 0 c47.T.length,.own 7 1 0 c47.Sel.length,.ro 3 (c47.L.map zz.c),.own 8 3 0 c47.Work.length,.bool c47.Over]),(5,.box (zw.c x903)),(8,.row 3 108 (c47.Work.map zw.c)),(7,.row 1 34 (c47.Sel.map (wv 10 qj.c))),(6,.row 1 36 (c47.T.map qk.c))]) (zk:=9) rfl rfl rfl rfl rfl (af rfl (aa (aj ?_)))))))))
  obtain rfl:=Option.some.inj hR
  exact ai [6,7,8] (.inr rfl) rfl rfl (qz (bG (qz (aN rfl rfl) (qz (aN rfl rfl) (qz rfl (qz (aN rfl rfl) (qz rfl qw)))))) (qz rfl qw)) rfl
 ·rw [hb1]; first | replace hR:=kz hb1 hR | (try simp only [hb1,bb] at hR)
  refine ap rfl (ah qv (ae (.agg (TNet.c n0)) (ay (zj:=[(0,.box (TNet.c n0)),(1,.box (TNet.c n0))]) (zk:=2) rfl rfl rfl rfl rfl (af rfl (aa (aj ?_))))))
  obtain rfl:=Option.some.inj hR
  exact ai [] (.inr rfl) rfl rfl rfl rfl
end Go.Proofs.YtmfggjebbhdejaaGreat.Abs
