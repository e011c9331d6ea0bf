/- The functions walked: each computes its Lean function (printed by this work's own program gen.py). -/
import Derived.Test.YtmfggjebbhdejaaGreatSo
import Derived.Test.YtmfggjebbhdejaaGreatW1
set_option linter.unusedVariables false
set_option linter.unusedSimpArgs false
set_option maxRecDepth 10000
set_option maxHeartbeats 4000000
namespace Go.Proofs.YtmfggjebbhdejaaGreat.Abs
open Go
theorem f84_ok (s0:List qj) (gdel1:FuncId) (gdel1f gdel1c:List PVal) (hdel1:qj → Bool) (gdel1k:PVal.closed.go gdel1f = true ∧ PVal.closed.go gdel1c = true) (gdel1o : ∀ (y0:qj) (R:Bool),hdel1 y0 = R → FnOk Tryz.prog gdel1 (gdel1f ++ [.agg (qj.c y0)] ++ gdel1c) [] 0 (.bool R) [] 0) (R:(List qj)) (hR:F84 s0 hdel1 = some R):FnOk Tryz.prog 84 [.own 0 10 0 s0.length,.fn gdel1 gdel1f gdel1c] [(0,.row 10 42 (s0.map qj.c))] 1 (.own 1 10 0 R.length) [(1,.row 10 42 (R.map qj.c))] 2:=by
 refine FnOk.wk i84 rfl rfl ?_
 unfold F84 at hR
 try dsimp only at hR
 change WK _ _ _ [ac84] _ ⟨[(0,.own 0 10 0 s0.length),(1,.fn gdel1 gdel1f gdel1c)],[(0,.row 10 42 (s0.map qj.c))],1⟩
 unfold ac84
 refine WK.mvT (t:=0) (zj:=[(1,.row 10 42 (s0.map qj.c))]) rfl rfl (by simp) rfl (WK.sr qv (GX.m rfl (GX.done (WK.sr qv (GX.m rfl (GX.m rfl ?_))))))
 generalize hc10:F115 s0 hdel1 = c10 at hR
 try dsimp only at hR
 refine GX.callbp (r:=.int .i64 c10) [1] rfl rfl rfl (qz (view_rowT rfl rfl) (qz (viewP_fnc gdel1k) qw)) (f115_ok s0 gdel1 gdel1f gdel1c hdel1 gdel1k gdel1o _ hc10) rfl rfl (GX.m rfl (GX.done (WK.seq (WK.sr qv (GX.m rfl (GX.q (.bool (decide (c10 = (-1)))) (GX.done ?_)))))))
 rcases qq (decide (c10 = (-1))) with hb1 | hb1
 ·rw [hb1]; first | replace hR:=kz hb1 hR | (try simp only [hb1,bb] at hR)
  refine WK.condF rfl (WK.skip (WK.seq (WK.sr qv (GX.m rfl (GX.q (.int .i64 (IntKind.i64.wrap (c10 + 1))) (GX.m rfl (GX.done ?_)))))))
  generalize gi12:F84l1 hdel1 1000 c10 (IntKind.i64.wrap (c10 + 1)) s0 = gh12 at hR
  refine WK.forK (fun k s=>∃ (i5:Int) (j6:Int) (s0x:List qj),F84l1 hdel1 k i5 j6 s0x = gh12 ∧ s = ⟨[(0,.own 1 10 0 s0x.length),(1,.fn gdel1 gdel1f gdel1c),(5,.int .i64 i5),(6,.int .i64 j6)],[(1,.row 10 42 (s0x.map qj.c))],2⟩) 1000 (by refine ⟨_,?_,c10,(IntKind.i64.wrap (c10 + 1)),s0,gi12,rfl⟩; exact Conv.keepR [0,1] [] [0,1,5,6] rfl rfl (qx rfl rfl (qx rfl (viewP_fnc gdel1k) (qx rfl rfl (qx rfl rfl qy)))) rfl rfl) ?_
  rintro k12 _ ⟨i5,j6,s0x,gg12,rfl⟩ gb12 gd12 gk12 ga12 gc12 gf12
  rcases k12 with _ | f12
  ·unfold F84l1 at gg12
   subst gg12
   first | replace hR:=wz hR | replace hR:=oexc_n hR
   cases hR
  unfold F84l1 at gg12; try dsimp only at gg12
  refine WK.seq (WK.sr qv (GX.m rfl (GX.m rfl (GX.q (.int .i64 (s0x.length:Int)) (GX.q (.bool (decide (j6 < (s0x.length:Int)))) (GX.done ?_))))))
  rcases qq (decide (j6 < (s0x.length:Int))) with hb13 | hb13
  ·rw [hb13]; try simp only [hb13,bb] at gg12
   refine WK.condF rfl (WK.exit ?_)
   refine QF.exit (gc12 _ ?_)
   subst gg12
   replace hR:=obind_s hR; try dsimp only at hR
   refine WK.sr qv (GX.m rfl (GX.m rfl ?_))
   rcases qq (decide ((0:Int) ≤ i5)) with hg14 | hg14
   ·replace hR:=kz hg14 hR
    cases hR
   replace hR:=ky hg14 hR; try dsimp only at hR
   have hg14_:=of_decide_eq_true hg14
   rcases qq (decide (i5 ≤ (s0x.length:Int))) with hg15 | hg15
   ·replace hR:=kz hg15 hR
    cases hR
   replace hR:=ky hg15 hR; try dsimp only at hR
   have hg15_:=of_decide_eq_true hg15
   refine GX.pure (v':=.own 1 10 i5.toNat (s0x.length - i5.toNat)) rfl rfl rfl (core_sliceRlo (c:=qj.c) (L:=s0x) i5.toNat rfl (by omega) (by omega) rfl) rfl ?_
   rcases qq (decide ((i5.toNat:Int) < (s0x.length:Int))) with hg16 | hg16
   ·replace hR:=kz hg16 hR
    cases hR
   replace hR:=ky hg16 hR; try dsimp only at hR
   have hg16_:=of_decide_eq_true hg16
   refine GX.step0 (zj:=[(1,.row 10 42 ((s0x.take i5.toNat ++ List.replicate (s0x.length - i5.toNat) ((⟨(⟨0,0⟩ : zy),0,0,0,0,0,false,0,([]:List THop)⟩ : qj):qj)).map qj.c))]) (zk:=2) rfl rfl (core_clearT (c:=qj.c) (L:=s0x) (x0:=(⟨(⟨0,0⟩ : zy),0,0,0,0,0,false,0,([]:List THop)⟩ : qj)) (lo:=i5.toNat) rfl (by omega) (by omega) rfl rfl) rfl rfl (GX.done (WK.sr qv (GX.m rfl (GX.m rfl ?_))))
   rcases qq (decide (i5 ≤ ((s0x.take i5.toNat ++ List.replicate (s0x.length - i5.toNat) ((⟨(⟨0,0⟩ : zy),0,0,0,0,0,false,0,([]:List THop)⟩ : qj):qj)).length:Int))) with hg17 | hg17
   ·replace hR:=kz hg17 hR
    cases hR
   replace hR:=ky hg17 hR; try dsimp only at hR
   have hg17_:=of_decide_eq_true hg17
   refine GX.pure (v':=.own 1 10 0 ((s0x.take i5.toNat ++ List.replicate (s0x.length - i5.toNat) ((⟨(⟨0,0⟩ : zy),0,0,0,0,0,false,0,([]:List THop)⟩ : qj):qj)).take i5.toNat).length) rfl rfl rfl (core_sliceRhiM (c:=qj.c) (L:=(s0x.take i5.toNat ++ List.replicate (s0x.length - i5.toNat) ((⟨(⟨0,0⟩ : zy),0,0,0,0,0,false,0,([]:List THop)⟩ : qj):qj))) rfl (by omega) (by omega) (by ((try simp only [decide_eq_true_eq,List.length_set,List.length_append,List.length_take,List.length_replicate] at *) <;> omega))) rfl (GX.m rfl (GX.done (WK.truncT (c:=qj.c) (L:=(s0x.take i5.toNat ++ List.replicate (s0x.length - i5.toNat) ((⟨(⟨0,0⟩ : zy),0,0,0,0,0,false,0,([]:List THop)⟩ : qj):qj))) (id:=1) (zj:=[(1,.row 10 42 (((s0x.take i5.toNat ++ List.replicate (s0x.length - i5.toNat) ((⟨(⟨0,0⟩ : zy),0,0,0,0,0,false,0,([]:List THop)⟩ : qj):qj)).take i5.toNat).map qj.c))]) i5.toNat rfl (by simp) rfl (WK.ret ?_))))
   obtain rfl:=Option.some.inj hR
   exact RetQ.ret [0,1] [] (.inr rfl) rfl rfl rfl rfl rfl .refl rfl
  ·rw [hb13]; try simp only [hb13,bb] at gg12
   refine WK.condT rfl (WK.skip (WK.seq ?_))
   refine WK.blockK (fun _ hK18=>?_)
   refine WK.sr qv (GX.m rfl (GX.m rfl ?_))
   rcases wy gg12 with ⟨_,gg12⟩ | ⟨x918,hx918,gg12⟩
   ·subst gg12
    first | replace hR:=wz hR | replace hR:=oexc_n hR
    cases hR
   try dsimp only at gg12
   obtain ⟨hx9180,hx918j,hx918l,hx918⟩:=kx hx918
   refine GX.pure (v':=.eptr 1 10 j6.toNat 0) rfl rfl rfl (core_idxoT (c:=qj.c) (L:=s0x) (j:=j6.toNat) rfl hx918j hx918l (by exact Nat.le_refl _)) rfl (GX.pure (v':=.agg (qj.c x918)) rfl rfl rfl (core_loaT (c:=qj.c) (L:=s0x) (x:=x918) rfl hx918 rfl) rfl (GX.step (v':=.ptr 2 0) (zj:=[(1,.row 10 42 (s0x.map qj.c)),(2,.box [.int .u32 0,.int .i64 0,.int .i64 0,.int .i64 0,.int .i64 0,.int .i64 0,.int .u32 0,.bool false,.int .i64 0,.nils])]) (zk:=3) rfl rfl rfl rfl rfl rfl rfl (GX.step0 (zj:=[(1,.row 10 42 (s0x.map qj.c)),(2,.box (qj.c x918))]) (zk:=3) rfl rfl rfl rfl rfl (GX.done (WK.sr qv (GX.m rfl (GX.q (.agg (qj.c x918)) ?_)))))))
   generalize hc28:hdel1 x918 = c28 at gg12
   try dsimp only at gg12
   refine GX.callvp (r:=.bool c28) rfl rfl rfl (gdel1o x918 _ hc28) (closed3 gdel1k.1 rfl gdel1k.2) rfl (GX.q (.bool (!c28)) (GX.done ?_))
   rcases qq (c28) with hb20 | hb20
   ·rw [hb20]; try simp only [hb20,bb] at gg12
    refine WK.condT rfl (WK.sr qv (GX.m rfl (GX.m rfl (GX.q (.agg (qj.c x918)) ?_))))
    rcases wy gg12 with ⟨_,gg12⟩ | ⟨x920,hx920,gg12⟩
    ·subst gg12
     first | replace hR:=wz hR | replace hR:=oexc_n hR
     cases hR
    try dsimp only at gg12
    obtain ⟨hx9200,hx920j,hx920l,hx920⟩:=kx hx920
    refine GX.pure (v':=.eptr 1 10 i5.toNat 0) rfl rfl rfl (core_idxoT (c:=qj.c) (L:=s0x) (j:=i5.toNat) rfl hx920j hx920l (by exact Nat.le_refl _)) rfl (GX.step0 (zj:=[(1,.row 10 42 ((s0x.set i5.toNat x918).map qj.c)),(2,.box (qj.c x918))]) (zk:=3) rfl rfl (core_stoT (c:=qj.c) (L:=s0x) (x:=x920) (x':=x918) rfl hx920 rfl rfl rfl rfl rfl) rfl rfl (GX.done (WK.regx qv (GX.m rfl (GX.q (.int .i64 (IntKind.i64.wrap (i5 + 1))) (GX.m rfl (GX.done ?_)))))))
    refine WK.nil (QF.normal (hK18 _ ?_))
    refine WK.regx qv (GX.m rfl (GX.q (.int .i64 (IntKind.i64.wrap (j6 + 1))) (GX.m rfl (GX.done ?_))))
    refine WK.nil (QF.normal ?_)
    refine ga12 _ f12 _ (Nat.lt_succ_self _) ?_ ⟨(IntKind.i64.wrap (i5 + 1)),(IntKind.i64.wrap (j6 + 1)),(s0x.set i5.toNat x918),gg12,rfl⟩
    exact Conv.keepR [0,1] [] [0,1,5,6] rfl rfl (qx rfl (viewP_own_len rfl (by simp)) (qx rfl (viewP_fnc gdel1k) (qx rfl rfl (qx rfl rfl qy)))) rfl rfl
   ·rw [hb20]; try simp only [hb20,bb] at gg12
    refine WK.condF rfl (WK.skip ?_)
    refine WK.nil (QF.normal (hK18 _ ?_))
    refine WK.regx qv (GX.m rfl (GX.q (.int .i64 (IntKind.i64.wrap (j6 + 1))) (GX.m rfl (GX.done ?_))))
    refine WK.nil (QF.normal ?_)
    refine ga12 _ f12 _ (Nat.lt_succ_self _) ?_ ⟨i5,(IntKind.i64.wrap (j6 + 1)),s0x,gg12,rfl⟩
    exact Conv.keepR [0,1] [] [0,1,5,6] rfl rfl (qx rfl rfl (qx rfl (viewP_fnc gdel1k) (qx rfl rfl (qx rfl rfl qy)))) rfl rfl
 ·rw [hb1]; first | replace hR:=ky hb1 hR | (try simp only [hb1,bb] at hR)
  refine WK.condT rfl (WK.sr qv (GX.m rfl (GX.m rfl (GX.done (WK.ret ?_)))))
  obtain rfl:=Option.some.inj hR
  exact RetQ.ret [0,1] [] (.inr rfl) rfl rfl rfl rfl rfl .refl rfl
theorem f42_ok (t0:qk) (gholds1:FuncId) (gholds1f gholds1c:List PVal) (hholds1:qj → Bool) (gholds1k:PVal.closed.go gholds1f = true ∧ PVal.closed.go gholds1c = true) (gholds1o : ∀ (y0:qj) (R:Bool),hholds1 y0 = R → FnOk Tryz.prog gholds1 (gholds1f ++ [.agg (qj.c y0)] ++ gholds1c) [] 0 (.bool R) [] 0) (R:qk) (hR:F42 t0 hholds1 = some R):FnOk Tryz.prog 42 [.agg (qk.c t0),.fn gholds1 gholds1f gholds1c] [] 0 (.agg (qk.c R)) [] 0:=by
 refine FnOk.wk i42 rfl rfl ?_
 unfold F42 at hR
 try dsimp only at hR
 change WK _ _ _ [ac42] _ ⟨[(0,.agg (qk.c t0)),(1,.fn gholds1 gholds1f gholds1c)],[],0⟩
 unfold ac42
 refine WK.sr qv (GX.step (v':=.ptr 0 0) (zj:=[(0,.box (qk.c t0))]) (zk:=1) rfl rfl rfl rfl rfl rfl rfl (GX.step (v':=.ptr 1 0) (zj:=[(0,.box (qk.c t0)),(1,.box [.nils])]) (zk:=2) rfl rfl rfl rfl rfl rfl rfl (GX.done (WK.sr qv (GX.q (.ptr 0 0) (GX.q (.ro 10 (t0.L.map qj.c)) ?_))))))
 rcases qq (decide (t0.L.length < 1099511627776)) with hg1 | hg1
 ·replace hR:=kz hg1 hR
  cases hR
 replace hR:=ky hg1 hR; try dsimp only at hR
 have hg1_:=of_decide_eq_true hg1
 refine GX.callx (r':=.own 2 10 0 t0.L.length) (zj:=[(0,.box (qk.c t0)),(1,.box [.nils]),(2,.row 10 42 (t0.L.map qj.c))]) (zk:=3) [] [] rfl rfl rfl rfl rfl rfl (clone_okT (c:=qj.c) qv i85 t0.L (by decide) (by omega) (by omega)) (.inl rfl) rfl rfl rfl (GX.m rfl ?_)
 obtain ⟨c9,hc9,hR⟩:=wx hR; try dsimp only at hR
 try dsimp only at hR
 refine GX.callx (r':=.own 3 10 0 c9.length) (zj:=[(0,.box (qk.c t0)),(1,.box [.nils]),(3,.row 10 42 (c9.map qj.c))]) (zk:=4) [2] [] rfl rfl rfl (qz rfl (qz (viewP_fnc gholds1k) qw)) rfl rfl (f84_ok t0.L gholds1 gholds1f gholds1c hholds1 gholds1k gholds1o _ hc9) (.inl rfl) rfl rfl rfl (GX.q (.agg [.own 3 10 0 c9.length]) (GX.step0 (zj:=[(0,.box (qk.c t0)),(1,.box [.own 3 10 0 c9.length]),(3,.row 10 42 (c9.map qj.c))]) (zk:=4) rfl rfl rfl rfl rfl (GX.done (WK.ret ?_))))
 obtain rfl:=Option.some.inj hR
 exact RetQ.fr [3] (.inr rfl) rfl rfl (qz (viewP_agg (qz (view_rowT rfl rfl) qw)) qw) rfl
theorem f176_ok (x0:zv) (R:Int × Int) (hR:F176 x0 = R):FnOk Tryz.prog 176 [.agg (zv.c x0)] [] 0 (.tup [.int .i64 R.1,.int .i64 R.2]) [] 0:=by
 refine FnOk.wk i176 rfl rfl ?_
 unfold F176 at hR
 change WK _ _ _ [ac176] _ ⟨[(0,.agg (zv.c x0))],[],0⟩
 unfold ac176
 refine WK.sr qv (GX.step (v':=.ptr 0 0) (zj:=[(0,.box (zv.c x0))]) (zk:=1) rfl rfl rfl rfl rfl rfl rfl (GX.m rfl (GX.m rfl (GX.done (WK.seq ?_)))))
 refine WK.blockK (fun _ hK1=>?_)
 refine WK.sr qv (GX.q (.ptr 0 4) (GX.q (.int .i64 x0.Ge) (GX.q (.bool (decide (x0.Ge = 0))) (GX.m rfl ?_))))
 rcases qq (decide (x0.Ge = 0)) with hb2 | hb2
 ·rw [hb2]; try simp only [hb2,bb] at hR
  refine GX.skip rfl rfl (GX.skip rfl rfl (GX.skip rfl rfl (GX.q (.bool false) (GX.m rfl (GX.done (WK.condF rfl (WK.sr qv (GX.q (.ptr 0 4) (GX.q (.int .i64 x0.Ge) (GX.q (.bool (decide (x0.Ge = 0))) (GX.m rfl (GX.done ?_))))))))))))
  rw [hb2]
  refine WK.condF rfl (WK.sr qv (GX.q (.ptr 0 5) (GX.q (.int .i64 x0.Le) (GX.q (.bool (decide (x0.Le = 0))) (GX.m rfl (GX.done ?_))))))
  rcases qq (decide (x0.Le = 0)) with hb3 | hb3
  ·rw [hb3]; try simp only [hb3,bb] at hR
   refine WK.condF rfl (WK.skip ?_)
   refine WK.nil (QF.normal (hK1 _ ?_))
   refine WK.seq (WK.drawn qv (RD.q (.ptr 0 4) (RD.q (.int .i64 x0.Ge) (RD.q (.ptr 0 5) (RD.q (.int .i64 x0.Le) (RD.m rfl (RD.m rfl (RD.done rfl (WK.ret ?_)))))))))
   subst hR
   exact RetQ.fr [] (.inr rfl) rfl rfl rfl rfl
  ·rw [hb3]; try simp only [hb3,bb] at hR
   refine WK.condT rfl (WK.sr qv (GX.q (.ptr 0 4) (GX.q (.int .i64 x0.Ge) (GX.m rfl (GX.m rfl (GX.done (WK.ret (QF.ret ?_))))))))
   subst hR
   exact RetQ.fr [] (.inr rfl) rfl rfl rfl rfl
 ·rw [hb2]; try simp only [hb2,bb] at hR
  refine GX.q (.ptr 0 5) (GX.q (.int .i64 x0.Le) (GX.q (.bool (decide (x0.Le = 0))) (GX.q (.bool (decide (x0.Le = 0))) (GX.m rfl (GX.done ?_)))))
  rcases qq (decide (x0.Le = 0)) with hb4 | hb4
  ·rw [hb4]; try simp only [hb4,bb] at hR
   refine WK.condF rfl (WK.sr qv (GX.q (.ptr 0 4) (GX.q (.int .i64 x0.Ge) (GX.q (.bool (decide (x0.Ge = 0))) (GX.m rfl (GX.done ?_))))))
   rw [hb2]
   refine WK.condT rfl (WK.seq (WK.drawn qv (RD.q (.ptr 0 2) (RD.q (.ptr 0 3) (RD.q (.int .i64 x0.P.N) (RD.q (.ptr 0 5) (RD.q (.int .i64 x0.Le) (RD.m rfl (RD.m rfl (RD.done rfl (WK.ret (QF.ret ?_))))))))))))
   subst hR
   exact RetQ.fr [] (.inr rfl) rfl rfl rfl rfl
  ·rw [hb4]; try simp only [hb4,bb] at hR
   refine WK.condT rfl (WK.seq (WK.drawn qv (RD.q (.ptr 0 2) (RD.q (.ptr 0 3) (RD.q (.int .i64 x0.P.N) (RD.q (.ptr 0 2) (RD.q (.ptr 0 3) (RD.q (.int .i64 x0.P.N) (RD.m rfl (RD.m rfl (RD.done rfl (WK.ret (QF.ret ?_)))))))))))))
   subst hR
   exact RetQ.fr [] (.inr rfl) rfl rfl rfl rfl
theorem f167_ok (p0:zy) (a1:Int) (R:Bool) (hR:F167 p0 a1 = R):FnOk Tryz.prog 167 [.agg (zy.c p0),.int .u32 a1] [] 0 (.bool R) [] 0:=by
 refine FnOk.wk i167 rfl rfl ?_
 unfold F167 at hR
 change WK _ _ _ [ac167] _ ⟨[(0,.agg (zy.c p0)),(1,.int .u32 a1)],[],0⟩
 unfold ac167
 refine WK.sr qv (GX.step (v':=.ptr 0 0) (zj:=[(0,.box (zy.c p0))]) (zk:=1) rfl rfl rfl rfl rfl rfl rfl (GX.m rfl (GX.done (WK.seq (WK.drawn qv (RD.q (.agg (zy.c p0)) ?_))))))
 generalize hc6:F124 p0 = c6 at hR
 try dsimp only at hR
 refine RD.callp (r:=.bool c6) rfl rfl rfl (f124_ok p0 _ hc6) rfl rfl (RD.m rfl ?_)
 rcases qq (c6) with hb1 | hb1
 ·rw [hb1]; try simp only [hb1,bb] at hR
  iterate 8 refine RD.skip rfl rfl ?_
  refine RD.q (.bool false) (RD.m rfl (RD.done rfl (WK.ret ?_)))
  subst hR
  exact RetQ.fr [] (.inr rfl) rfl rfl rfl rfl
 ·rw [hb1]; try simp only [hb1,bb] at hR
  refine RD.m rfl (RD.q (.ptr 0 1) (RD.q (.int .i64 p0.N) ?_))
  generalize hc11:F152 p0.N = c11 at hR
  try dsimp only at hR
  refine RD.callp (r:=.int .u32 c11) rfl rfl rfl (f152_ok p0.N _ hc11) rfl rfl (RD.q (.int .u32 (bit_and .u32 a1 c11)) (RD.q (.ptr 0 0) (RD.q (.int .u32 p0.A) (RD.q (.bool (decide (bit_and .u32 a1 c11 = p0.A))) (RD.q (.bool (decide (bit_and .u32 a1 c11 = p0.A))) (RD.m rfl (RD.done rfl (WK.ret ?_))))))))
  subst hR
  exact RetQ.fr [] (.inr rfl) rfl rfl rfl rfl
theorem f177_ok (p0:zy) (q1:zy) (R:Bool) (hR:F177 p0 q1 = R):FnOk Tryz.prog 177 [.agg (zy.c p0),.agg (zy.c q1)] [] 0 (.bool R) [] 0:=by
 refine FnOk.wk i177 rfl rfl ?_
 unfold F177 at hR
 change WK _ _ _ [ac177] _ ⟨[(0,.agg (zy.c p0)),(1,.agg (zy.c q1))],[],0⟩
 unfold ac177
 refine WK.sr qv (GX.step (v':=.ptr 0 0) (zj:=[(0,.box (zy.c p0))]) (zk:=1) rfl rfl rfl rfl rfl rfl rfl (GX.step (v':=.ptr 1 0) (zj:=[(0,.box (zy.c p0)),(1,.box (zy.c q1))]) (zk:=2) rfl rfl rfl rfl rfl rfl rfl (GX.m rfl (GX.done (WK.sr qv (GX.q (.agg (zy.c q1)) ?_))))))
 generalize hc6:F124 q1 = c6 at hR
 try dsimp only at hR
 refine GX.callp (r:=.bool c6) rfl rfl rfl (f124_ok q1 _ hc6) rfl rfl (GX.m rfl ?_)
 rcases qq (c6) with hb1 | hb1
 ·rw [hb1]; try simp only [hb1,bb] at hR
  iterate 5 refine GX.skip rfl rfl ?_
  refine GX.q (.bool false) (GX.m rfl ?_)
  iterate 4 refine GX.skip rfl rfl ?_
  refine GX.q (.bool false) (GX.m rfl (GX.done (WK.ret ?_)))
  subst hR
  exact RetQ.fr [] (.inr rfl) rfl rfl rfl rfl
 ·rw [hb1]; try simp only [hb1,bb] at hR
  refine GX.q (.ptr 0 1) (GX.q (.int .i64 p0.N) (GX.q (.ptr 1 1) (GX.q (.int .i64 q1.N) (GX.q (.bool (decide (p0.N ≤ q1.N))) (GX.q (.bool (decide (p0.N ≤ q1.N))) (GX.m rfl ?_))))))
  rcases qq (decide (p0.N ≤ q1.N)) with hb2 | hb2
  ·rw [hb2]; try simp only [hb2,bb] at hR
   iterate 4 refine GX.skip rfl rfl ?_
   refine GX.q (.bool false) (GX.m rfl (GX.done (WK.ret ?_)))
   subst hR
   exact RetQ.fr [] (.inr rfl) rfl rfl rfl rfl
  ·rw [hb2]; try simp only [hb2,bb] at hR
   refine GX.q (.agg (zy.c p0)) (GX.q (.ptr 1 0) (GX.q (.int .u32 q1.A) ?_))
   generalize hc18:F167 p0 q1.A = c18 at hR
   try dsimp only at hR
   refine GX.callp (r:=.bool c18) rfl rfl rfl (f167_ok p0 q1.A _ hc18) rfl rfl (GX.q (.bool c18) (GX.m rfl (GX.done (WK.ret ?_))))
   subst hR
   exact RetQ.fr [] (.inr rfl) rfl rfl rfl rfl
theorem f170_ok (x0:zv) (q1:zy) (R:Bool) (hR:F170 x0 q1 = R):FnOk Tryz.prog 170 [.agg (zv.c x0),.agg (zy.c q1)] [] 0 (.bool R) [] 0:=by
 refine FnOk.wk i170 rfl rfl ?_
 unfold F170 at hR
 change WK _ _ _ [ac170] _ ⟨[(0,.agg (zv.c x0)),(1,.agg (zy.c q1))],[],0⟩
 unfold ac170
 refine WK.sr qv (GX.step (v':=.ptr 0 0) (zj:=[(0,.box (zv.c x0))]) (zk:=1) rfl rfl rfl rfl rfl rfl rfl (GX.step (v':=.ptr 1 0) (zj:=[(0,.box (zv.c x0)),(1,.box (zy.c q1))]) (zk:=2) rfl rfl rfl rfl rfl rfl rfl (GX.m rfl (GX.done (WK.sr qv (GX.q (.agg (zv.c x0)) ?_))))))
 generalize hc9:F176 x0 = c9 at hR
 obtain ⟨c9a,c9b⟩:=c9; try dsimp only at hR
 refine GX.callp (r:=.tup [.int .i64 c9a,.int .i64 c9b]) rfl rfl rfl (f176_ok x0 _ hc9) rfl rfl (GX.m rfl (GX.q (.int .i64 c9a) (GX.q (.int .i64 c9b) (GX.m rfl (GX.m rfl (GX.done (WK.sr qv (GX.q (.agg (zv.c x0)) ?_))))))))
 generalize hc13:F161 x0 = c13 at hR
 try dsimp only at hR
 refine GX.callp (r:=.bool c13) rfl rfl rfl (f161_ok x0 _ hc13) rfl rfl (GX.m rfl ?_)
 rcases qq (c13) with hb1 | hb1
 ·rw [hb1]; try simp only [hb1,bb] at hR
  iterate 4 refine GX.skip rfl rfl ?_
  refine GX.q (.bool false) (GX.m rfl ?_)
  iterate 4 refine GX.skip rfl rfl ?_
  refine GX.q (.bool false) (GX.m rfl ?_)
  iterate 4 refine GX.skip rfl rfl ?_
  refine GX.q (.bool false) (GX.m rfl (GX.done (WK.ret ?_)))
  subst hR
  exact RetQ.fr [] (.inr rfl) rfl rfl rfl rfl
 ·rw [hb1]; try simp only [hb1,bb] at hR
  refine GX.q (.ptr 0 2) (GX.q (.agg (zy.c x0.P)) (GX.q (.agg (zy.c q1)) ?_))
  generalize hc18:F177 x0.P q1 = c18 at hR
  try dsimp only at hR
  refine GX.callp (r:=.bool c18) rfl rfl rfl (f177_ok x0.P q1 _ hc18) rfl rfl (GX.q (.bool c18) (GX.m rfl ?_))
  rcases qq (c18) with hb2 | hb2
  ·rw [hb2]; try simp only [hb2,bb] at hR
   iterate 4 refine GX.skip rfl rfl ?_
   refine GX.q (.bool false) (GX.m rfl ?_)
   iterate 4 refine GX.skip rfl rfl ?_
   refine GX.q (.bool false) (GX.m rfl (GX.done (WK.ret ?_)))
   subst hR
   exact RetQ.fr [] (.inr rfl) rfl rfl rfl rfl
  ·rw [hb2]; try simp only [hb2,bb] at hR
   refine GX.q (.ptr 1 1) (GX.q (.int .i64 q1.N) (GX.m rfl (GX.q (.bool (decide (c9a ≤ q1.N))) (GX.q (.bool (decide (c9a ≤ q1.N))) (GX.m rfl ?_)))))
   rcases qq (decide (c9a ≤ q1.N)) with hb3 | hb3
   ·rw [hb3]; try simp only [hb3,bb] at hR
    iterate 4 refine GX.skip rfl rfl ?_
    refine GX.q (.bool false) (GX.m rfl (GX.done (WK.ret ?_)))
    subst hR
    exact RetQ.fr [] (.inr rfl) rfl rfl rfl rfl
   ·rw [hb3]; try simp only [hb3,bb] at hR
    refine GX.q (.ptr 1 1) (GX.q (.int .i64 q1.N) (GX.m rfl (GX.q (.bool (decide (q1.N ≤ c9b))) (GX.q (.bool (decide (q1.N ≤ c9b))) (GX.m rfl (GX.done (WK.ret ?_)))))))
    subst hR
    exact RetQ.fr [] (.inr rfl) rfl rfl rfl rfl
theorem f169_ok (x0:zv) (a1:zy) (R:Bool) (hR:F169 x0 a1 = R):FnOk Tryz.prog 169 [.agg (zv.c x0),.rptr (zy.c a1)] [] 0 (.bool R) [] 0:=by
 refine FnOk.wk i169 rfl rfl ?_
 unfold F169 at hR
 change WK _ _ _ [ac169] _ ⟨[(0,.agg (zv.c x0)),(1,.rptr (zy.c a1))],[],0⟩
 unfold ac169
 refine WK.sr qv (GX.step (v':=.ptr 0 0) (zj:=[(0,.box (zv.c x0))]) (zk:=1) rfl rfl rfl rfl rfl rfl rfl (GX.m rfl (GX.done (WK.sr qv (GX.q (.agg (zv.c x0)) (GX.q (.agg (zy.c a1)) ?_))))))
 generalize hc6:F170 x0 a1 = c6 at hR
 try dsimp only at hR
 refine GX.callp (r:=.bool c6) rfl rfl rfl (f170_ok x0 a1 _ hc6) rfl rfl (GX.m rfl (GX.done (WK.ret ?_)))
 subst hR
 exact RetQ.fr [] (.inr rfl) rfl rfl rfl rfl
theorem f149_ok (l0:List zv) (q1:zy) (R:Bool × Int) (hR:F149 l0 q1 = R):FnOk Tryz.prog 149 [.ro 6 (l0.map zv.c),.agg (zy.c q1)] [] 0 (.tup [.bool R.1,.int .i64 R.2]) [] 0:=by
 refine FnOk.wk i149 rfl rfl ?_
 unfold F149 at hR
 change WK _ _ _ [ac149] _ ⟨[(0,.ro 6 (l0.map zv.c)),(1,.agg (zy.c q1))],[],0⟩
 unfold ac149
 refine WK.sr qv (GX.step (v':=.ptr 0 0) (zj:=[(0,.box (zy.c q1))]) (zk:=1) rfl rfl rfl rfl rfl rfl rfl (GX.m rfl (GX.m rfl (GX.done (WK.sr qv (GX.m rfl (GX.q (.fn 169 [] [.ptr 0 0]) ?_)))))))
 generalize hc9:F168 l0 (fun y0=>F169 y0 q1) = c9 at hR
 try dsimp only at hR
 refine GX.callbp (r:=.int .i64 c9) [0] rfl rfl rfl rfl (f168_ok l0 169 [] [.rptr (zy.c q1)] (fun y0=>F169 y0 q1) ⟨rfl,rfl⟩ (fun y0 _ hr=>f169_ok y0 q1 _ hr) _ hc9) rfl rfl (GX.m rfl (GX.done (WK.seq (WK.sr qv (GX.m rfl (GX.q (.bool (decide (c9 < 0))) (GX.done ?_)))))))
 rcases qq (decide (c9 < 0)) with hb1 | hb1
 ·rw [hb1]; try simp only [hb1,bb] at hR
  refine WK.condF rfl (WK.skip (WK.seq (WK.drawn qv (RD.m rfl (RD.m rfl (RD.idxT (c:=zv.c) (x:=(l0.getD c9.toNat default)) rfl rfl rfl (by ((try simp only [decide_eq_true_eq,decide_eq_false_iff_not,Bool.not_eq_true,Bool.not_eq_false] at *); first | omega | (rw [wrap64_of (by omega) (by omega)]; omega) | (unfold min_ max_; (repeat' split) <;> first | omega | (rw [wrap64_of (by omega) (by omega)]; omega)))) (getD_at (by exact F168lt (by assumption) (by assumption))) (RD.q (.rptr [.bool ((l0.getD c9.toNat default).Permit),.int .u32 (((l0.getD c9.toNat default).P).A),.int .i64 (((l0.getD c9.toNat default).P).N),.int .i64 ((l0.getD c9.toNat default).Ge),.int .i64 ((l0.getD c9.toNat default).Le)]) (RD.q (.bool ((l0.getD c9.toNat default).Permit)) (RD.m rfl (RD.m rfl (RD.idxT (c:=zv.c) (x:=(l0.getD c9.toNat default)) rfl rfl rfl (by ((try simp only [decide_eq_true_eq,decide_eq_false_iff_not,Bool.not_eq_true,Bool.not_eq_false] at *); first | omega | (rw [wrap64_of (by omega) (by omega)]; omega) | (unfold min_ max_; (repeat' split) <;> first | omega | (rw [wrap64_of (by omega) (by omega)]; omega)))) (getD_at (by exact F168lt (by assumption) (by assumption))) (RD.q (.rptr [.int .i64 ((l0.getD c9.toNat default).Seq),.bool ((l0.getD c9.toNat default).Permit),.int .u32 (((l0.getD c9.toNat default).P).A),.int .i64 (((l0.getD c9.toNat default).P).N),.int .i64 ((l0.getD c9.toNat default).Ge),.int .i64 ((l0.getD c9.toNat default).Le)]) (RD.q (.int .i64 ((l0.getD c9.toNat default).Seq)) ?_)))))))))))))
  refine RD.m rfl (RD.m rfl (RD.done rfl (WK.ret ?_)))
  subst hR
  exact RetQ.fr [] (.inr rfl) rfl rfl rfl rfl
 ·rw [hb1]; try simp only [hb1,bb] at hR
  refine WK.condT rfl (WK.sr qv (GX.m rfl (GX.m rfl (GX.done (WK.ret ?_)))))
  subst hR
  exact RetQ.fr [] (.inr rfl) rfl rfl rfl rfl
theorem f171_ok (s0:List Int) (v1:Int) (R:Int) (hR:F171 s0 v1 = R):FnOk Tryz.prog 171 [.ro 1 (s0.map c_u32),.int .u32 v1] [] 0 (.int .i64 R) [] 0:=by
 refine FnOk.wk i171 rfl rfl ?_
 unfold F171 at hR
 change WK _ _ _ [ac171] _ ⟨[(0,.ro 1 (s0.map c_u32)),(1,.int .u32 v1)],[],0⟩
 unfold ac171
 refine WK.sr qv (GX.m rfl (GX.done (WK.seq (WK.sr qv (GX.m rfl (GX.pure (v':=.int .i64 (s0.length:Int)) rfl rfl rfl rfl (ww _ _) (GX.m rfl (GX.done ?_))))))))
 refine WK.len (t:=0) rfl (by simp) (fun ge1=>?_)
 rw [List.length_map] at ge1
 generalize gi1:F171l1 v1 0 s0 = gh1 at hR
 refine WK.forK (fun k s=>∃ (i8:Nat),i8 ≤ s0.length ∧ k = s0.length - i8 ∧ F171l1 v1 i8 (s0.drop i8) = gh1 ∧ s = ⟨[(0,.ro 1 (s0.map c_u32)),(1,.int .u32 v1),(7,.int .i64 (s0.length:Int)),(8,.int .i64 (i8:Int))],[],0⟩) s0.length (by refine ⟨_,?_,0,(by omega),rfl,gi1,rfl⟩; exact Conv.keep [] [] [0,1,7,8] rfl rfl (qx rfl rfl (qx rfl rfl (qx rfl rfl (qx rfl rfl qy)))) rfl rfl) ?_
 rintro _ _ ⟨i8,gj1,rfl,gg1,rfl⟩ gb1 gd1 gk1 ga1 gc1 hQ_1
 refine WK.sr qv (GX.q (.bool (decide ((i8:Int) < (s0.length:Int)))) (GX.done (WK.seq ?_)))
 rcases qq (decide ((i8:Int) < (s0.length:Int))) with hb2 | hb2
 ·rw [hb2]
  rw [drop_end hb2,F171l1] at gg1
  refine WK.condF rfl (WK.exit ?_)
  refine QF.exit (gc1 _ ?_)
  subst gg1
  try dsimp only [cond_true,cond_false] at hR
  refine WK.sr qv (GX.m rfl (GX.done (WK.ret ?_)))
  subst hR
  exact RetQ.fr [] (.inr rfl) rfl rfl rfl rfl
 ·rw [hb2]
  obtain ⟨x8,hx1,hd1,hlt1⟩:=drop_more hb2
  rw [hd1,F171l1] at gg1
  refine WK.condT rfl (WK.skip (WK.seq ?_))
  refine WK.blockK (fun _ hK3=>?_)
  refine WK.sr qv (GX.m rfl (GX.m rfl (GX.done (WK.sr qv (GX.m rfl (GX.m rfl (GX.m rfl (GX.idxT (c:=c_u32) (x:=x8) rfl rfl rfl (Int.natCast_nonneg _) hx1 (GX.q (.int .u32 x8) (GX.q (.bool (decide (v1 = x8))) (GX.done ?_)))))))))))
  rcases qq (decide (v1 = x8)) with hb4 | hb4
  ·rw [hb4]; try simp only [hb4,bb] at gg1
   refine WK.condF rfl (WK.skip ?_)
   refine WK.nil (QF.normal (hK3 _ ?_))
   refine WK.regx qv (GX.pure (v':=.int .i64 ((i8 + 1:Nat):Int)) rfl rfl rfl rfl (congrArg (PVal.int .i64) (wrap_up hlt1 ge1)) (GX.m rfl (GX.done ?_)))
   refine WK.nil (QF.normal ?_)
   refine ga1 _ (s0.length - (i8 + 1)) _ (by omega) ?_ ⟨i8 + 1,(by omega),rfl,gg1,rfl⟩
   exact Conv.keep [] [] [0,1,7,8] rfl rfl (qx rfl rfl (qx rfl rfl (qx rfl rfl (qx rfl rfl qy)))) rfl rfl
  ·rw [hb4]; try simp only [hb4,bb] at gg1
   refine WK.condT rfl (WK.sr qv (GX.m rfl (GX.m rfl (GX.done (WK.ret (QF.ret ?_))))))
   refine QF.ret (hQ_1 _ _ ?_)
   subst gg1
   subst hR
   exact RetQ.fr [] (.inr rfl) rfl rfl rfl rfl
theorem f150_ok (s0:List Int) (v1:Int) (R:Bool) (hR:F150 s0 v1 = R):FnOk Tryz.prog 150 [.ro 1 (s0.map c_u32),.int .u32 v1] [] 0 (.bool R) [] 0:=by
 refine FnOk.wk i150 rfl rfl ?_
 unfold F150 at hR
 change WK _ _ _ [ac150] _ ⟨[(0,.ro 1 (s0.map c_u32)),(1,.int .u32 v1)],[],0⟩
 unfold ac150
 refine WK.sr qv (GX.m rfl (GX.done (WK.sr qv (GX.m rfl (GX.m rfl ?_)))))
 generalize hc7:F171 s0 v1 = c7 at hR
 try dsimp only at hR
 refine GX.callp (r:=.int .i64 c7) rfl rfl rfl (f171_ok s0 v1 _ hc7) rfl rfl (GX.q (.bool (decide (0 ≤ c7))) (GX.m rfl (GX.done (WK.ret ?_))))
 subst hR
 exact RetQ.fr [] (.inr rfl) rfl rfl rfl rfl
theorem f121_ok (x0:zx) (t1:zq) (R:Bool) (hR:F121 x0 t1 = R):FnOk Tryz.prog 121 [.agg (zx.c x0),.agg (zq.c t1)] [] 0 (.bool R) [] 0:=by
 refine FnOk.wk i121 rfl rfl ?_
 unfold F121 at hR
 change WK _ _ _ [ac121] _ ⟨[(0,.agg (zx.c x0)),(1,.agg (zq.c t1))],[],0⟩
 unfold ac121
 refine WK.sr qv (GX.step (v':=.ptr 0 0) (zj:=[(0,.box (zx.c x0))]) (zk:=1) rfl rfl rfl rfl rfl rfl rfl (GX.step (v':=.ptr 1 0) (zj:=[(0,.box (zx.c x0)),(1,.box (zq.c t1))]) (zk:=2) rfl rfl rfl rfl rfl rfl rfl (GX.m rfl (GX.done (WK.sr qv (GX.m rfl (GX.done (WK.seq (WK.sr qv (GX.q (.ptr 0 2) (GX.q (.ro 6 (x0.Listf.map zv.c)) (GX.pure (v':=.int .i64 (x0.Listf.length:Int)) rfl rfl rfl rfl (ww _ _) (GX.q (.bool (decide (0 < (x0.Listf.length:Int)))) ?_)))))))))))))
 refine GX.done ?_
 rcases qq (decide (0 < (x0.Listf.length:Int))) with hb1 | hb1
 ·rw [hb1]; try simp only [hb1,bb] at hR
  refine WK.condF rfl (WK.skip (WK.sr qv (GX.q (.ptr 0 3) (GX.q (.int .i64 x0.MKind) (GX.q (.bool (decide (x0.MKind = (-1)))) (GX.m rfl ?_))))))
  rcases qq (decide (x0.MKind = (-1))) with hb2 | hb2
  ·rw [hb2]; try simp only [hb2,bb] at hR
   refine GX.q (.ptr 0 3) (GX.q (.int .i64 x0.MKind) (GX.q (.ptr 1 2) (GX.q (.int .i64 t1.Kind) (GX.q (.bool (decide (x0.MKind = t1.Kind))) (GX.q (.bool (decide (x0.MKind = t1.Kind))) (GX.m rfl (GX.done (WK.sr qv (GX.q (.ptr 0 6) (GX.q (.ro 1 (x0.MTags.map c_u32)) (GX.pure (v':=.int .i64 (x0.MTags.length:Int)) rfl rfl rfl rfl (ww _ _) (GX.q (.bool (decide ((x0.MTags.length:Int) = 0))) (GX.m rfl ?_)))))))))))))
   rcases qq (decide ((x0.MTags.length:Int) = 0)) with hb3 | hb3
   ·rw [hb3]; try simp only [hb3,bb] at hR
    refine GX.q (.ptr 0 6) (GX.q (.ro 1 (x0.MTags.map c_u32)) (GX.q (.ptr 1 4) (GX.q (.int .u32 t1.Tag) ?_)))
    generalize hc39:F150 x0.MTags t1.Tag = c39 at hR
    try dsimp only at hR
    refine GX.callp (r:=.bool c39) rfl rfl rfl (f150_ok x0.MTags t1.Tag _ hc39) rfl rfl (GX.q (.bool c39) (GX.m rfl (GX.done (WK.sr qv (GX.m rfl (GX.m rfl (GX.m rfl (GX.q (.bool (decide (x0.MKind = t1.Kind))) (GX.m rfl ?_)))))))))
    rcases qq (decide (x0.MKind = t1.Kind)) with hb4 | hb4
    ·rw [hb4]; try simp only [hb4,bb] at hR
     refine GX.skip rfl rfl (GX.q (.bool false) (GX.m rfl ?_))
     iterate 7 refine GX.skip rfl rfl ?_
     refine GX.q (.bool false) (GX.m rfl (GX.done (WK.ret ?_)))
     subst hR
     exact RetQ.fr [] (.inr rfl) rfl rfl rfl rfl
    ·rw [hb4]; try simp only [hb4,bb] at hR
     refine GX.m rfl (GX.q (.bool c39) (GX.m rfl ?_))
     rcases qq (c39) with hb5 | hb5
     ·rw [hb5]; try simp only [hb5,bb] at hR
      iterate 7 refine GX.skip rfl rfl ?_
      refine GX.q (.bool false) (GX.m rfl (GX.done (WK.ret ?_)))
      subst hR
      exact RetQ.fr [] (.inr rfl) rfl rfl rfl rfl
     ·rw [hb5]; try simp only [hb5,bb] at hR
      refine GX.q (.ptr 1 3) (GX.q (.int .i64 t1.Cost) (GX.q (.ptr 0 4) (GX.q (.int .i64 x0.MLow) (GX.q (.ptr 0 5) (GX.q (.int .i64 x0.MHigh) ?_)))))
      generalize hc55:F138 t1.Cost x0.MLow x0.MHigh = c55 at hR
      try dsimp only at hR
      refine GX.callp (r:=.bool c55) rfl rfl rfl (f138_ok t1.Cost x0.MLow x0.MHigh _ hc55) rfl rfl (GX.q (.bool c55) (GX.m rfl (GX.done (WK.ret ?_))))
      subst hR
      exact RetQ.fr [] (.inr rfl) rfl rfl rfl rfl
   ·rw [hb3]; try simp only [hb3,bb] at hR
    iterate 5 refine GX.skip rfl rfl ?_
    refine GX.q (.bool true) (GX.m rfl (GX.done (WK.sr qv (GX.m rfl (GX.m rfl (GX.m rfl (GX.q (.bool (decide (x0.MKind = t1.Kind))) (GX.m rfl ?_))))))))
    rcases qq (decide (x0.MKind = t1.Kind)) with hb6 | hb6
    ·rw [hb6]; try simp only [hb6,bb] at hR
     refine GX.skip rfl rfl (GX.q (.bool false) (GX.m rfl ?_))
     iterate 7 refine GX.skip rfl rfl ?_
     refine GX.q (.bool false) (GX.m rfl (GX.done (WK.ret ?_)))
     subst hR
     exact RetQ.fr [] (.inr rfl) rfl rfl rfl rfl
    ·rw [hb6]; try simp only [hb6,bb] at hR
     refine GX.m rfl (GX.q (.bool true) (GX.m rfl (GX.q (.ptr 1 3) (GX.q (.int .i64 t1.Cost) (GX.q (.ptr 0 4) (GX.q (.int .i64 x0.MLow) (GX.q (.ptr 0 5) (GX.q (.int .i64 x0.MHigh) ?_))))))))
     generalize hc55:F138 t1.Cost x0.MLow x0.MHigh = c55 at hR
     try dsimp only at hR
     refine GX.callp (r:=.bool c55) rfl rfl rfl (f138_ok t1.Cost x0.MLow x0.MHigh _ hc55) rfl rfl (GX.q (.bool c55) (GX.m rfl (GX.done (WK.ret ?_))))
     subst hR
     exact RetQ.fr [] (.inr rfl) rfl rfl rfl rfl
  ·rw [hb2]; try simp only [hb2,bb] at hR
   iterate 5 refine GX.skip rfl rfl ?_
   refine GX.q (.bool true) (GX.m rfl (GX.done (WK.sr qv (GX.q (.ptr 0 6) (GX.q (.ro 1 (x0.MTags.map c_u32)) (GX.pure (v':=.int .i64 (x0.MTags.length:Int)) rfl rfl rfl rfl (ww _ _) (GX.q (.bool (decide ((x0.MTags.length:Int) = 0))) (GX.m rfl ?_))))))))
   rcases qq (decide ((x0.MTags.length:Int) = 0)) with hb7 | hb7
   ·rw [hb7]; try simp only [hb7,bb] at hR
    refine GX.q (.ptr 0 6) (GX.q (.ro 1 (x0.MTags.map c_u32)) (GX.q (.ptr 1 4) (GX.q (.int .u32 t1.Tag) ?_)))
    generalize hc39:F150 x0.MTags t1.Tag = c39 at hR
    try dsimp only at hR
    refine GX.callp (r:=.bool c39) rfl rfl rfl (f150_ok x0.MTags t1.Tag _ hc39) rfl rfl (GX.q (.bool c39) (GX.m rfl (GX.done (WK.sr qv (GX.m rfl (GX.m rfl (GX.m rfl (GX.q (.bool true) (GX.m rfl (GX.m rfl (GX.q (.bool c39) (GX.m rfl ?_))))))))))))
    rcases qq (c39) with hb8 | hb8
    ·rw [hb8]; try simp only [hb8,bb] at hR
     iterate 7 refine GX.skip rfl rfl ?_
     refine GX.q (.bool false) (GX.m rfl (GX.done (WK.ret ?_)))
     subst hR
     exact RetQ.fr [] (.inr rfl) rfl rfl rfl rfl
    ·rw [hb8]; try simp only [hb8,bb] at hR
     refine GX.q (.ptr 1 3) (GX.q (.int .i64 t1.Cost) (GX.q (.ptr 0 4) (GX.q (.int .i64 x0.MLow) (GX.q (.ptr 0 5) (GX.q (.int .i64 x0.MHigh) ?_)))))
     generalize hc55:F138 t1.Cost x0.MLow x0.MHigh = c55 at hR
     try dsimp only at hR
     refine GX.callp (r:=.bool c55) rfl rfl rfl (f138_ok t1.Cost x0.MLow x0.MHigh _ hc55) rfl rfl (GX.q (.bool c55) (GX.m rfl (GX.done (WK.ret ?_))))
     subst hR
     exact RetQ.fr [] (.inr rfl) rfl rfl rfl rfl
   ·rw [hb7]; try simp only [hb7,bb] at hR
    iterate 5 refine GX.skip rfl rfl ?_
    refine GX.q (.bool true) (GX.m rfl (GX.done (WK.sr qv (GX.m rfl (GX.m rfl (GX.m rfl (GX.q (.bool true) (GX.m rfl (GX.m rfl (GX.q (.bool true) (GX.m rfl (GX.q (.ptr 1 3) (GX.q (.int .i64 t1.Cost) ?_)))))))))))))
    refine GX.q (.ptr 0 4) (GX.q (.int .i64 x0.MLow) (GX.q (.ptr 0 5) (GX.q (.int .i64 x0.MHigh) ?_)))
    generalize hc55:F138 t1.Cost x0.MLow x0.MHigh = c55 at hR
    try dsimp only at hR
    refine GX.callp (r:=.bool c55) rfl rfl rfl (f138_ok t1.Cost x0.MLow x0.MHigh _ hc55) rfl rfl (GX.q (.bool c55) (GX.m rfl (GX.done (WK.ret ?_))))
    subst hR
    exact RetQ.fr [] (.inr rfl) rfl rfl rfl rfl
 ·rw [hb1]; try simp only [hb1,bb] at hR
  refine WK.condT rfl (WK.regx qv (GX.q (.ptr 0 2) (GX.q (.ro 6 (x0.Listf.map zv.c)) (GX.q (.ptr 1 0) (GX.q (.agg (zy.c t1.P)) ?_)))))
  generalize hc17:F149 x0.Listf t1.P = c17 at hR
  obtain ⟨c17a,c17b⟩:=c17; try dsimp only at hR
  refine GX.callp (r:=.tup [.bool c17a,.int .i64 c17b]) rfl rfl rfl (f149_ok x0.Listf t1.P _ hc17) rfl rfl (GX.m rfl (GX.q (.bool c17a) (GX.q (.int .i64 c17b) (GX.m rfl (GX.done (WK.sr qv (GX.q (.ptr 0 3) (GX.q (.int .i64 x0.MKind) (GX.q (.bool (decide (x0.MKind = (-1)))) (GX.m rfl ?_))))))))))
  rcases qq (decide (x0.MKind = (-1))) with hb9 | hb9
  ·rw [hb9]; try simp only [hb9,bb] at hR
   refine GX.q (.ptr 0 3) (GX.q (.int .i64 x0.MKind) (GX.q (.ptr 1 2) (GX.q (.int .i64 t1.Kind) (GX.q (.bool (decide (x0.MKind = t1.Kind))) (GX.q (.bool (decide (x0.MKind = t1.Kind))) (GX.m rfl (GX.done (WK.sr qv (GX.q (.ptr 0 6) (GX.q (.ro 1 (x0.MTags.map c_u32)) (GX.pure (v':=.int .i64 (x0.MTags.length:Int)) rfl rfl rfl rfl (ww _ _) (GX.q (.bool (decide ((x0.MTags.length:Int) = 0))) (GX.m rfl ?_)))))))))))))
   rcases qq (decide ((x0.MTags.length:Int) = 0)) with hb10 | hb10
   ·rw [hb10]; try simp only [hb10,bb] at hR
    refine GX.q (.ptr 0 6) (GX.q (.ro 1 (x0.MTags.map c_u32)) (GX.q (.ptr 1 4) (GX.q (.int .u32 t1.Tag) ?_)))
    generalize hc39:F150 x0.MTags t1.Tag = c39 at hR
    try dsimp only at hR
    refine GX.callp (r:=.bool c39) rfl rfl rfl (f150_ok x0.MTags t1.Tag _ hc39) rfl rfl (GX.q (.bool c39) (GX.m rfl (GX.done (WK.sr qv (GX.m rfl (GX.m rfl ?_))))))
    rcases qq (c17a) with hb11 | hb11
    ·rw [hb11]; try simp only [hb11,bb] at hR
     refine GX.skip rfl rfl (GX.q (.bool false) (GX.m rfl (GX.skip rfl rfl (GX.q (.bool false) (GX.m rfl ?_)))))
     iterate 7 refine GX.skip rfl rfl ?_
     refine GX.q (.bool false) (GX.m rfl (GX.done (WK.ret ?_)))
     subst hR
     exact RetQ.fr [] (.inr rfl) rfl rfl rfl rfl
    ·rw [hb11]; try simp only [hb11,bb] at hR
     refine GX.m rfl (GX.q (.bool (decide (x0.MKind = t1.Kind))) (GX.m rfl ?_))
     rcases qq (decide (x0.MKind = t1.Kind)) with hb12 | hb12
     ·rw [hb12]; try simp only [hb12,bb] at hR
      refine GX.skip rfl rfl (GX.q (.bool false) (GX.m rfl ?_))
      iterate 7 refine GX.skip rfl rfl ?_
      refine GX.q (.bool false) (GX.m rfl (GX.done (WK.ret ?_)))
      subst hR
      exact RetQ.fr [] (.inr rfl) rfl rfl rfl rfl
     ·rw [hb12]; try simp only [hb12,bb] at hR
      refine GX.m rfl (GX.q (.bool c39) (GX.m rfl ?_))
      rcases qq (c39) with hb13 | hb13
      ·rw [hb13]; try simp only [hb13,bb] at hR
       iterate 7 refine GX.skip rfl rfl ?_
       refine GX.q (.bool false) (GX.m rfl (GX.done (WK.ret ?_)))
       subst hR
       exact RetQ.fr [] (.inr rfl) rfl rfl rfl rfl
      ·rw [hb13]; try simp only [hb13,bb] at hR
       refine GX.q (.ptr 1 3) (GX.q (.int .i64 t1.Cost) (GX.q (.ptr 0 4) (GX.q (.int .i64 x0.MLow) (GX.q (.ptr 0 5) (GX.q (.int .i64 x0.MHigh) ?_)))))
       generalize hc55:F138 t1.Cost x0.MLow x0.MHigh = c55 at hR
       try dsimp only at hR
       refine GX.callp (r:=.bool c55) rfl rfl rfl (f138_ok t1.Cost x0.MLow x0.MHigh _ hc55) rfl rfl (GX.q (.bool c55) (GX.m rfl (GX.done (WK.ret ?_))))
       subst hR
       exact RetQ.fr [] (.inr rfl) rfl rfl rfl rfl
   ·rw [hb10]; try simp only [hb10,bb] at hR
    iterate 5 refine GX.skip rfl rfl ?_
    refine GX.q (.bool true) (GX.m rfl (GX.done (WK.sr qv (GX.m rfl (GX.m rfl ?_)))))
    rcases qq (c17a) with hb14 | hb14
    ·rw [hb14]; try simp only [hb14,bb] at hR
     refine GX.skip rfl rfl (GX.q (.bool false) (GX.m rfl (GX.skip rfl rfl (GX.q (.bool false) (GX.m rfl ?_)))))
     iterate 7 refine GX.skip rfl rfl ?_
     refine GX.q (.bool false) (GX.m rfl (GX.done (WK.ret ?_)))
     subst hR
     exact RetQ.fr [] (.inr rfl) rfl rfl rfl rfl
    ·rw [hb14]; try simp only [hb14,bb] at hR
     refine GX.m rfl (GX.q (.bool (decide (x0.MKind = t1.Kind))) (GX.m rfl ?_))
     rcases qq (decide (x0.MKind = t1.Kind)) with hb15 | hb15
     ·rw [hb15]; try simp only [hb15,bb] at hR
      refine GX.skip rfl rfl (GX.q (.bool false) (GX.m rfl ?_))
      iterate 7 refine GX.skip rfl rfl ?_
      refine GX.q (.bool false) (GX.m rfl (GX.done (WK.ret ?_)))
      subst hR
      exact RetQ.fr [] (.inr rfl) rfl rfl rfl rfl
     ·rw [hb15]; try simp only [hb15,bb] at hR
      refine GX.m rfl (GX.q (.bool true) (GX.m rfl (GX.q (.ptr 1 3) (GX.q (.int .i64 t1.Cost) (GX.q (.ptr 0 4) (GX.q (.int .i64 x0.MLow) (GX.q (.ptr 0 5) (GX.q (.int .i64 x0.MHigh) ?_))))))))
      generalize hc55:F138 t1.Cost x0.MLow x0.MHigh = c55 at hR
      try dsimp only at hR
      refine GX.callp (r:=.bool c55) rfl rfl rfl (f138_ok t1.Cost x0.MLow x0.MHigh _ hc55) rfl rfl (GX.q (.bool c55) (GX.m rfl (GX.done (WK.ret ?_))))
      subst hR
      exact RetQ.fr [] (.inr rfl) rfl rfl rfl rfl
  ·rw [hb9]; try simp only [hb9,bb] at hR
   iterate 5 refine GX.skip rfl rfl ?_
   refine GX.q (.bool true) (GX.m rfl (GX.done (WK.sr qv (GX.q (.ptr 0 6) (GX.q (.ro 1 (x0.MTags.map c_u32)) (GX.pure (v':=.int .i64 (x0.MTags.length:Int)) rfl rfl rfl rfl (ww _ _) (GX.q (.bool (decide ((x0.MTags.length:Int) = 0))) (GX.m rfl ?_))))))))
   rcases qq (decide ((x0.MTags.length:Int) = 0)) with hb16 | hb16
   ·rw [hb16]; try simp only [hb16,bb] at hR
    refine GX.q (.ptr 0 6) (GX.q (.ro 1 (x0.MTags.map c_u32)) (GX.q (.ptr 1 4) (GX.q (.int .u32 t1.Tag) ?_)))
    generalize hc39:F150 x0.MTags t1.Tag = c39 at hR
    try dsimp only at hR
    refine GX.callp (r:=.bool c39) rfl rfl rfl (f150_ok x0.MTags t1.Tag _ hc39) rfl rfl (GX.q (.bool c39) (GX.m rfl (GX.done (WK.sr qv (GX.m rfl (GX.m rfl ?_))))))
    rcases qq (c17a) with hb17 | hb17
    ·rw [hb17]; try simp only [hb17,bb] at hR
     refine GX.skip rfl rfl (GX.q (.bool false) (GX.m rfl (GX.skip rfl rfl (GX.q (.bool false) (GX.m rfl ?_)))))
     iterate 7 refine GX.skip rfl rfl ?_
     refine GX.q (.bool false) (GX.m rfl (GX.done (WK.ret ?_)))
     subst hR
     exact RetQ.fr [] (.inr rfl) rfl rfl rfl rfl
    ·rw [hb17]; try simp only [hb17,bb] at hR
     refine GX.m rfl (GX.q (.bool true) (GX.m rfl (GX.m rfl (GX.q (.bool c39) (GX.m rfl ?_)))))
     rcases qq (c39) with hb18 | hb18
     ·rw [hb18]; try simp only [hb18,bb] at hR
      iterate 7 refine GX.skip rfl rfl ?_
      refine GX.q (.bool false) (GX.m rfl (GX.done (WK.ret ?_)))
      subst hR
      exact RetQ.fr [] (.inr rfl) rfl rfl rfl rfl
     ·rw [hb18]; try simp only [hb18,bb] at hR
      refine GX.q (.ptr 1 3) (GX.q (.int .i64 t1.Cost) (GX.q (.ptr 0 4) (GX.q (.int .i64 x0.MLow) (GX.q (.ptr 0 5) (GX.q (.int .i64 x0.MHigh) ?_)))))
      generalize hc55:F138 t1.Cost x0.MLow x0.MHigh = c55 at hR
      try dsimp only at hR
      refine GX.callp (r:=.bool c55) rfl rfl rfl (f138_ok t1.Cost x0.MLow x0.MHigh _ hc55) rfl rfl (GX.q (.bool c55) (GX.m rfl (GX.done (WK.ret ?_))))
      subst hR
      exact RetQ.fr [] (.inr rfl) rfl rfl rfl rfl
   ·rw [hb16]; try simp only [hb16,bb] at hR
    iterate 5 refine GX.skip rfl rfl ?_
    refine GX.q (.bool true) (GX.m rfl (GX.done (WK.sr qv (GX.m rfl (GX.m rfl ?_)))))
    rcases qq (c17a) with hb19 | hb19
    ·rw [hb19]; try simp only [hb19,bb] at hR
     refine GX.skip rfl rfl (GX.q (.bool false) (GX.m rfl (GX.skip rfl rfl (GX.q (.bool false) (GX.m rfl ?_)))))
     iterate 7 refine GX.skip rfl rfl ?_
     refine GX.q (.bool false) (GX.m rfl (GX.done (WK.ret ?_)))
     subst hR
     exact RetQ.fr [] (.inr rfl) rfl rfl rfl rfl
    ·rw [hb19]; try simp only [hb19,bb] at hR
     refine GX.m rfl (GX.q (.bool true) (GX.m rfl (GX.m rfl (GX.q (.bool true) (GX.m rfl (GX.q (.ptr 1 3) (GX.q (.int .i64 t1.Cost) (GX.q (.ptr 0 4) (GX.q (.int .i64 x0.MLow) (GX.q (.ptr 0 5) (GX.q (.int .i64 x0.MHigh) ?_)))))))))))
     generalize hc55:F138 t1.Cost x0.MLow x0.MHigh = c55 at hR
     try dsimp only at hR
     refine GX.callp (r:=.bool c55) rfl rfl rfl (f138_ok t1.Cost x0.MLow x0.MHigh _ hc55) rfl rfl (GX.q (.bool c55) (GX.m rfl (GX.done (WK.ret ?_))))
     subst hR
     exact RetQ.fr [] (.inr rfl) rfl rfl rfl rfl
theorem f120_ok (x0:zx) (a1:zq) (R:Bool) (hR:F120 x0 a1 = R):FnOk Tryz.prog 120 [.agg (zx.c x0),.rptr (zq.c a1)] [] 0 (.bool R) [] 0:=by
 refine FnOk.wk i120 rfl rfl ?_
 unfold F120 at hR
 change WK _ _ _ [ac120] _ ⟨[(0,.agg (zx.c x0)),(1,.rptr (zq.c a1))],[],0⟩
 unfold ac120
 refine WK.sr qv (GX.step (v':=.ptr 0 0) (zj:=[(0,.box (zx.c x0))]) (zk:=1) rfl rfl rfl rfl rfl rfl rfl (GX.m rfl (GX.done (WK.sr qv (GX.q (.agg (zx.c x0)) (GX.q (.agg (zq.c a1)) ?_))))))
 generalize hc6:F121 x0 a1 = c6 at hR
 try dsimp only at hR
 refine GX.callp (r:=.bool c6) rfl rfl rfl (f121_ok x0 a1 _ hc6) rfl rfl (GX.m rfl (GX.done (WK.ret ?_)))
 subst hR
 exact RetQ.fr [] (.inr rfl) rfl rfl rfl rfl
theorem f122_ok (x0:zx) (t1:zq) (R:zq) (hR:F122 x0 t1 = R):FnOk Tryz.prog 122 [.agg (zx.c x0),.agg (zq.c t1)] [] 0 (.agg (zq.c R)) [] 0:=by
 refine FnOk.wk i122 rfl rfl ?_
 unfold F122 at hR
 change WK _ _ _ [ac122] _ ⟨[(0,.agg (zx.c x0)),(1,.agg (zq.c t1))],[],0⟩
 unfold ac122
 refine WK.sr qv (GX.step (v':=.ptr 0 0) (zj:=[(0,.box (zx.c x0))]) (zk:=1) rfl rfl rfl rfl rfl rfl rfl (GX.step (v':=.ptr 1 0) (zj:=[(0,.box (zx.c x0)),(1,.box (zq.c t1))]) (zk:=2) rfl rfl rfl rfl rfl rfl rfl (GX.step (v':=.ptr 2 0) (zj:=[(0,.box (zx.c x0)),(1,.box (zq.c t1)),(2,.box [.int .u32 0,.int .i64 0,.int .i64 0,.int .i64 0,.int .u32 0])]) (zk:=3) rfl rfl rfl rfl rfl rfl rfl (GX.done (WK.seq (WK.sr qv (GX.q (.ptr 0 7) (GX.q (.int .i64 x0.SCost) (GX.q (.bool (!decide (x0.SCost = (-1)))) (GX.done ?_))))))))))
 rcases qq (decide (x0.SCost = (-1))) with hb1 | hb1
 ·rw [hb1]; try simp only [hb1,bb] at hR
  refine WK.condT rfl (WK.regx qv (GX.q (.ptr 0 7) (GX.q (.int .i64 x0.SCost) (GX.q (.ptr 1 3) (GX.step0 (zj:=[(0,.box (zx.c x0)),(1,.box [.int .u32 t1.P.A,.int .i64 t1.P.N,.int .i64 t1.Kind,.int .i64 x0.SCost,.int .u32 t1.Tag]),(2,.box [.int .u32 0,.int .i64 0,.int .i64 0,.int .i64 0,.int .u32 0])]) (zk:=3) rfl rfl rfl rfl rfl (GX.done (WK.seq (WK.sr qv (GX.q (.ptr 0 9) (GX.q (.int .i64 x0.SKind) (GX.q (.bool (!decide (x0.SKind = (-1)))) (GX.done ?_))))))))))))
  rcases qq (decide (x0.SKind = (-1))) with hb2 | hb2
  ·rw [hb2]; try simp only [hb2,bb] at hR
   refine WK.condT rfl (WK.regx qv (GX.q (.ptr 0 9) (GX.q (.int .i64 x0.SKind) (GX.q (.ptr 1 2) (GX.step0 (zj:=[(0,.box (zx.c x0)),(1,.box [.int .u32 t1.P.A,.int .i64 t1.P.N,.int .i64 x0.SKind,.int .i64 x0.SCost,.int .u32 t1.Tag]),(2,.box [.int .u32 0,.int .i64 0,.int .i64 0,.int .i64 0,.int .u32 0])]) (zk:=3) rfl rfl rfl rfl rfl (GX.done (WK.seq (WK.sr qv (GX.q (.ptr 0 10) (GX.q (.bool x0.SetTag) (GX.done ?_)))))))))))
   rcases qq (x0.SetTag) with hb3 | hb3
   ·rw [hb3]; try simp only [hb3,bb] at hR
    refine WK.condF rfl (WK.skip (WK.sr qv (GX.q (.ptr 1 3) (GX.q (.int .i64 x0.SCost) (GX.q (.ptr 0 8) (GX.q (.int .i64 x0.SPlus) (GX.q (.int .i64 (IntKind.i64.wrap (x0.SCost + x0.SPlus))) (GX.q (.int .i64 (min_ (IntKind.i64.wrap (x0.SCost + x0.SPlus)) 16777215)) (GX.q (.ptr 1 3) (GX.step0 (zj:=[(0,.box (zx.c x0)),(1,.box [.int .u32 t1.P.A,.int .i64 t1.P.N,.int .i64 x0.SKind,.int .i64 (min_ (IntKind.i64.wrap (x0.SCost + x0.SPlus)) 16777215),.int .u32 t1.Tag]),(2,.box [.int .u32 0,.int .i64 0,.int .i64 0,.int .i64 0,.int .u32 0])]) (zk:=3) rfl rfl rfl rfl rfl (GX.done (WK.sr qv (GX.q (.agg [.int .u32 t1.P.A,.int .i64 t1.P.N,.int .i64 x0.SKind,.int .i64 (min_ (IntKind.i64.wrap (x0.SCost + x0.SPlus)) 16777215),.int .u32 t1.Tag]) ?_)))))))))))))
    refine GX.step0 (zj:=[(0,.box (zx.c x0)),(1,.box [.int .u32 t1.P.A,.int .i64 t1.P.N,.int .i64 x0.SKind,.int .i64 (min_ (IntKind.i64.wrap (x0.SCost + x0.SPlus)) 16777215),.int .u32 t1.Tag]),(2,.box [.int .u32 t1.P.A,.int .i64 t1.P.N,.int .i64 x0.SKind,.int .i64 (min_ (IntKind.i64.wrap (x0.SCost + x0.SPlus)) 16777215),.int .u32 t1.Tag])]) (zk:=3) rfl rfl rfl rfl rfl (GX.done (WK.ret ?_))
    subst hR
    exact RetQ.fr [] (.inr rfl) rfl rfl rfl rfl
   ·rw [hb3]; try simp only [hb3,bb] at hR
    refine WK.condT rfl (WK.regx qv (GX.q (.ptr 0 11) (GX.q (.int .u32 x0.STag) (GX.q (.ptr 1 4) (GX.step0 (zj:=[(0,.box (zx.c x0)),(1,.box [.int .u32 t1.P.A,.int .i64 t1.P.N,.int .i64 x0.SKind,.int .i64 x0.SCost,.int .u32 x0.STag]),(2,.box [.int .u32 0,.int .i64 0,.int .i64 0,.int .i64 0,.int .u32 0])]) (zk:=3) rfl rfl rfl rfl rfl (GX.done (WK.sr qv (GX.q (.ptr 1 3) (GX.q (.int .i64 x0.SCost) (GX.q (.ptr 0 8) (GX.q (.int .i64 x0.SPlus) (GX.q (.int .i64 (IntKind.i64.wrap (x0.SCost + x0.SPlus))) (GX.q (.int .i64 (min_ (IntKind.i64.wrap (x0.SCost + x0.SPlus)) 16777215)) ?_)))))))))))))
    refine GX.q (.ptr 1 3) (GX.step0 (zj:=[(0,.box (zx.c x0)),(1,.box [.int .u32 t1.P.A,.int .i64 t1.P.N,.int .i64 x0.SKind,.int .i64 (min_ (IntKind.i64.wrap (x0.SCost + x0.SPlus)) 16777215),.int .u32 x0.STag]),(2,.box [.int .u32 0,.int .i64 0,.int .i64 0,.int .i64 0,.int .u32 0])]) (zk:=3) rfl rfl rfl rfl rfl (GX.done (WK.sr qv (GX.q (.agg [.int .u32 t1.P.A,.int .i64 t1.P.N,.int .i64 x0.SKind,.int .i64 (min_ (IntKind.i64.wrap (x0.SCost + x0.SPlus)) 16777215),.int .u32 x0.STag]) (GX.step0 (zj:=[(0,.box (zx.c x0)),(1,.box [.int .u32 t1.P.A,.int .i64 t1.P.N,.int .i64 x0.SKind,.int .i64 (min_ (IntKind.i64.wrap (x0.SCost + x0.SPlus)) 16777215),.int .u32 x0.STag]),(2,.box [.int .u32 t1.P.A,.int .i64 t1.P.N,.int .i64 x0.SKind,.int .i64 (min_ (IntKind.i64.wrap (x0.SCost + x0.SPlus)) 16777215),.int .u32 x0.STag])]) (zk:=3) rfl rfl rfl rfl rfl (GX.done (WK.ret ?_)))))))
    subst hR
    exact RetQ.fr [] (.inr rfl) rfl rfl rfl rfl
  ·rw [hb2]; try simp only [hb2,bb] at hR
   refine WK.condF rfl (WK.skip (WK.seq (WK.sr qv (GX.q (.ptr 0 10) (GX.q (.bool x0.SetTag) (GX.done ?_))))))
   rcases qq (x0.SetTag) with hb4 | hb4
   ·rw [hb4]; try simp only [hb4,bb] at hR
    refine WK.condF rfl (WK.skip (WK.sr qv (GX.q (.ptr 1 3) (GX.q (.int .i64 x0.SCost) (GX.q (.ptr 0 8) (GX.q (.int .i64 x0.SPlus) (GX.q (.int .i64 (IntKind.i64.wrap (x0.SCost + x0.SPlus))) (GX.q (.int .i64 (min_ (IntKind.i64.wrap (x0.SCost + x0.SPlus)) 16777215)) (GX.q (.ptr 1 3) (GX.step0 (zj:=[(0,.box (zx.c x0)),(1,.box [.int .u32 t1.P.A,.int .i64 t1.P.N,.int .i64 t1.Kind,.int .i64 (min_ (IntKind.i64.wrap (x0.SCost + x0.SPlus)) 16777215),.int .u32 t1.Tag]),(2,.box [.int .u32 0,.int .i64 0,.int .i64 0,.int .i64 0,.int .u32 0])]) (zk:=3) rfl rfl rfl rfl rfl (GX.done (WK.sr qv (GX.q (.agg [.int .u32 t1.P.A,.int .i64 t1.P.N,.int .i64 t1.Kind,.int .i64 (min_ (IntKind.i64.wrap (x0.SCost + x0.SPlus)) 16777215),.int .u32 t1.Tag]) ?_)))))))))))))
    refine GX.step0 (zj:=[(0,.box (zx.c x0)),(1,.box [.int .u32 t1.P.A,.int .i64 t1.P.N,.int .i64 t1.Kind,.int .i64 (min_ (IntKind.i64.wrap (x0.SCost + x0.SPlus)) 16777215),.int .u32 t1.Tag]),(2,.box [.int .u32 t1.P.A,.int .i64 t1.P.N,.int .i64 t1.Kind,.int .i64 (min_ (IntKind.i64.wrap (x0.SCost + x0.SPlus)) 16777215),.int .u32 t1.Tag])]) (zk:=3) rfl rfl rfl rfl rfl (GX.done (WK.ret ?_))
    subst hR
    exact RetQ.fr [] (.inr rfl) rfl rfl rfl rfl
   ·rw [hb4]; try simp only [hb4,bb] at hR
    refine WK.condT rfl (WK.regx qv (GX.q (.ptr 0 11) (GX.q (.int .u32 x0.STag) (GX.q (.ptr 1 4) (GX.step0 (zj:=[(0,.box (zx.c x0)),(1,.box [.int .u32 t1.P.A,.int .i64 t1.P.N,.int .i64 t1.Kind,.int .i64 x0.SCost,.int .u32 x0.STag]),(2,.box [.int .u32 0,.int .i64 0,.int .i64 0,.int .i64 0,.int .u32 0])]) (zk:=3) rfl rfl rfl rfl rfl (GX.done (WK.sr qv (GX.q (.ptr 1 3) (GX.q (.int .i64 x0.SCost) (GX.q (.ptr 0 8) (GX.q (.int .i64 x0.SPlus) (GX.q (.int .i64 (IntKind.i64.wrap (x0.SCost + x0.SPlus))) (GX.q (.int .i64 (min_ (IntKind.i64.wrap (x0.SCost + x0.SPlus)) 16777215)) ?_)))))))))))))
    refine GX.q (.ptr 1 3) (GX.step0 (zj:=[(0,.box (zx.c x0)),(1,.box [.int .u32 t1.P.A,.int .i64 t1.P.N,.int .i64 t1.Kind,.int .i64 (min_ (IntKind.i64.wrap (x0.SCost + x0.SPlus)) 16777215),.int .u32 x0.STag]),(2,.box [.int .u32 0,.int .i64 0,.int .i64 0,.int .i64 0,.int .u32 0])]) (zk:=3) rfl rfl rfl rfl rfl (GX.done (WK.sr qv (GX.q (.agg [.int .u32 t1.P.A,.int .i64 t1.P.N,.int .i64 t1.Kind,.int .i64 (min_ (IntKind.i64.wrap (x0.SCost + x0.SPlus)) 16777215),.int .u32 x0.STag]) (GX.step0 (zj:=[(0,.box (zx.c x0)),(1,.box [.int .u32 t1.P.A,.int .i64 t1.P.N,.int .i64 t1.Kind,.int .i64 (min_ (IntKind.i64.wrap (x0.SCost + x0.SPlus)) 16777215),.int .u32 x0.STag]),(2,.box [.int .u32 t1.P.A,.int .i64 t1.P.N,.int .i64 t1.Kind,.int .i64 (min_ (IntKind.i64.wrap (x0.SCost + x0.SPlus)) 16777215),.int .u32 x0.STag])]) (zk:=3) rfl rfl rfl rfl rfl (GX.done (WK.ret ?_)))))))
    subst hR
    exact RetQ.fr [] (.inr rfl) rfl rfl rfl rfl
 ·rw [hb1]; try simp only [hb1,bb] at hR
  refine WK.condF rfl (WK.skip (WK.seq (WK.sr qv (GX.q (.ptr 0 9) (GX.q (.int .i64 x0.SKind) (GX.q (.bool (!decide (x0.SKind = (-1)))) (GX.done ?_)))))))
  rcases qq (decide (x0.SKind = (-1))) with hb5 | hb5
  ·rw [hb5]; try simp only [hb5,bb] at hR
   refine WK.condT rfl (WK.regx qv (GX.q (.ptr 0 9) (GX.q (.int .i64 x0.SKind) (GX.q (.ptr 1 2) (GX.step0 (zj:=[(0,.box (zx.c x0)),(1,.box [.int .u32 t1.P.A,.int .i64 t1.P.N,.int .i64 x0.SKind,.int .i64 t1.Cost,.int .u32 t1.Tag]),(2,.box [.int .u32 0,.int .i64 0,.int .i64 0,.int .i64 0,.int .u32 0])]) (zk:=3) rfl rfl rfl rfl rfl (GX.done (WK.seq (WK.sr qv (GX.q (.ptr 0 10) (GX.q (.bool x0.SetTag) (GX.done ?_)))))))))))
   rcases qq (x0.SetTag) with hb6 | hb6
   ·rw [hb6]; try simp only [hb6,bb] at hR
    refine WK.condF rfl (WK.skip (WK.sr qv (GX.q (.ptr 1 3) (GX.q (.int .i64 t1.Cost) (GX.q (.ptr 0 8) (GX.q (.int .i64 x0.SPlus) (GX.q (.int .i64 (IntKind.i64.wrap (t1.Cost + x0.SPlus))) (GX.q (.int .i64 (min_ (IntKind.i64.wrap (t1.Cost + x0.SPlus)) 16777215)) (GX.q (.ptr 1 3) (GX.step0 (zj:=[(0,.box (zx.c x0)),(1,.box [.int .u32 t1.P.A,.int .i64 t1.P.N,.int .i64 x0.SKind,.int .i64 (min_ (IntKind.i64.wrap (t1.Cost + x0.SPlus)) 16777215),.int .u32 t1.Tag]),(2,.box [.int .u32 0,.int .i64 0,.int .i64 0,.int .i64 0,.int .u32 0])]) (zk:=3) rfl rfl rfl rfl rfl (GX.done (WK.sr qv (GX.q (.agg [.int .u32 t1.P.A,.int .i64 t1.P.N,.int .i64 x0.SKind,.int .i64 (min_ (IntKind.i64.wrap (t1.Cost + x0.SPlus)) 16777215),.int .u32 t1.Tag]) ?_)))))))))))))
    refine GX.step0 (zj:=[(0,.box (zx.c x0)),(1,.box [.int .u32 t1.P.A,.int .i64 t1.P.N,.int .i64 x0.SKind,.int .i64 (min_ (IntKind.i64.wrap (t1.Cost + x0.SPlus)) 16777215),.int .u32 t1.Tag]),(2,.box [.int .u32 t1.P.A,.int .i64 t1.P.N,.int .i64 x0.SKind,.int .i64 (min_ (IntKind.i64.wrap (t1.Cost + x0.SPlus)) 16777215),.int .u32 t1.Tag])]) (zk:=3) rfl rfl rfl rfl rfl (GX.done (WK.ret ?_))
    subst hR
    exact RetQ.fr [] (.inr rfl) rfl rfl rfl rfl
   ·rw [hb6]; try simp only [hb6,bb] at hR
    refine WK.condT rfl (WK.regx qv (GX.q (.ptr 0 11) (GX.q (.int .u32 x0.STag) (GX.q (.ptr 1 4) (GX.step0 (zj:=[(0,.box (zx.c x0)),(1,.box [.int .u32 t1.P.A,.int .i64 t1.P.N,.int .i64 x0.SKind,.int .i64 t1.Cost,.int .u32 x0.STag]),(2,.box [.int .u32 0,.int .i64 0,.int .i64 0,.int .i64 0,.int .u32 0])]) (zk:=3) rfl rfl rfl rfl rfl (GX.done (WK.sr qv (GX.q (.ptr 1 3) (GX.q (.int .i64 t1.Cost) (GX.q (.ptr 0 8) (GX.q (.int .i64 x0.SPlus) (GX.q (.int .i64 (IntKind.i64.wrap (t1.Cost + x0.SPlus))) (GX.q (.int .i64 (min_ (IntKind.i64.wrap (t1.Cost + x0.SPlus)) 16777215)) ?_)))))))))))))
    refine GX.q (.ptr 1 3) (GX.step0 (zj:=[(0,.box (zx.c x0)),(1,.box [.int .u32 t1.P.A,.int .i64 t1.P.N,.int .i64 x0.SKind,.int .i64 (min_ (IntKind.i64.wrap (t1.Cost + x0.SPlus)) 16777215),.int .u32 x0.STag]),(2,.box [.int .u32 0,.int .i64 0,.int .i64 0,.int .i64 0,.int .u32 0])]) (zk:=3) rfl rfl rfl rfl rfl (GX.done (WK.sr qv (GX.q (.agg [.int .u32 t1.P.A,.int .i64 t1.P.N,.int .i64 x0.SKind,.int .i64 (min_ (IntKind.i64.wrap (t1.Cost + x0.SPlus)) 16777215),.int .u32 x0.STag]) (GX.step0 (zj:=[(0,.box (zx.c x0)),(1,.box [.int .u32 t1.P.A,.int .i64 t1.P.N,.int .i64 x0.SKind,.int .i64 (min_ (IntKind.i64.wrap (t1.Cost + x0.SPlus)) 16777215),.int .u32 x0.STag]),(2,.box [.int .u32 t1.P.A,.int .i64 t1.P.N,.int .i64 x0.SKind,.int .i64 (min_ (IntKind.i64.wrap (t1.Cost + x0.SPlus)) 16777215),.int .u32 x0.STag])]) (zk:=3) rfl rfl rfl rfl rfl (GX.done (WK.ret ?_)))))))
    subst hR
    exact RetQ.fr [] (.inr rfl) rfl rfl rfl rfl
  ·rw [hb5]; try simp only [hb5,bb] at hR
   refine WK.condF rfl (WK.skip (WK.seq (WK.sr qv (GX.q (.ptr 0 10) (GX.q (.bool x0.SetTag) (GX.done ?_))))))
   rcases qq (x0.SetTag) with hb7 | hb7
   ·rw [hb7]; try simp only [hb7,bb] at hR
    refine WK.condF rfl (WK.skip (WK.sr qv (GX.q (.ptr 1 3) (GX.q (.int .i64 t1.Cost) (GX.q (.ptr 0 8) (GX.q (.int .i64 x0.SPlus) (GX.q (.int .i64 (IntKind.i64.wrap (t1.Cost + x0.SPlus))) (GX.q (.int .i64 (min_ (IntKind.i64.wrap (t1.Cost + x0.SPlus)) 16777215)) (GX.q (.ptr 1 3) (GX.step0 (zj:=[(0,.box (zx.c x0)),(1,.box [.int .u32 t1.P.A,.int .i64 t1.P.N,.int .i64 t1.Kind,.int .i64 (min_ (IntKind.i64.wrap (t1.Cost + x0.SPlus)) 16777215),.int .u32 t1.Tag]),(2,.box [.int .u32 0,.int .i64 0,.int .i64 0,.int .i64 0,.int .u32 0])]) (zk:=3) rfl rfl rfl rfl rfl (GX.done (WK.sr qv (GX.q (.agg [.int .u32 t1.P.A,.int .i64 t1.P.N,.int .i64 t1.Kind,.int .i64 (min_ (IntKind.i64.wrap (t1.Cost + x0.SPlus)) 16777215),.int .u32 t1.Tag]) ?_)))))))))))))
    refine GX.step0 (zj:=[(0,.box (zx.c x0)),(1,.box [.int .u32 t1.P.A,.int .i64 t1.P.N,.int .i64 t1.Kind,.int .i64 (min_ (IntKind.i64.wrap (t1.Cost + x0.SPlus)) 16777215),.int .u32 t1.Tag]),(2,.box [.int .u32 t1.P.A,.int .i64 t1.P.N,.int .i64 t1.Kind,.int .i64 (min_ (IntKind.i64.wrap (t1.Cost + x0.SPlus)) 16777215),.int .u32 t1.Tag])]) (zk:=3) rfl rfl rfl rfl rfl (GX.done (WK.ret ?_))
    subst hR
    exact RetQ.fr [] (.inr rfl) rfl rfl rfl rfl
   ·rw [hb7]; try simp only [hb7,bb] at hR
    refine WK.condT rfl (WK.regx qv (GX.q (.ptr 0 11) (GX.q (.int .u32 x0.STag) (GX.q (.ptr 1 4) (GX.step0 (zj:=[(0,.box (zx.c x0)),(1,.box [.int .u32 t1.P.A,.int .i64 t1.P.N,.int .i64 t1.Kind,.int .i64 t1.Cost,.int .u32 x0.STag]),(2,.box [.int .u32 0,.int .i64 0,.int .i64 0,.int .i64 0,.int .u32 0])]) (zk:=3) rfl rfl rfl rfl rfl (GX.done (WK.sr qv (GX.q (.ptr 1 3) (GX.q (.int .i64 t1.Cost) (GX.q (.ptr 0 8) (GX.q (.int .i64 x0.SPlus) (GX.q (.int .i64 (IntKind.i64.wrap (t1.Cost + x0.SPlus))) (GX.q (.int .i64 (min_ (IntKind.i64.wrap (t1.Cost + x0.SPlus)) 16777215)) ?_)))))))))))))
    refine GX.q (.ptr 1 3) (GX.step0 (zj:=[(0,.box (zx.c x0)),(1,.box [.int .u32 t1.P.A,.int .i64 t1.P.N,.int .i64 t1.Kind,.int .i64 (min_ (IntKind.i64.wrap (t1.Cost + x0.SPlus)) 16777215),.int .u32 x0.STag]),(2,.box [.int .u32 0,.int .i64 0,.int .i64 0,.int .i64 0,.int .u32 0])]) (zk:=3) rfl rfl rfl rfl rfl (GX.done (WK.sr qv (GX.q (.agg [.int .u32 t1.P.A,.int .i64 t1.P.N,.int .i64 t1.Kind,.int .i64 (min_ (IntKind.i64.wrap (t1.Cost + x0.SPlus)) 16777215),.int .u32 x0.STag]) (GX.step0 (zj:=[(0,.box (zx.c x0)),(1,.box [.int .u32 t1.P.A,.int .i64 t1.P.N,.int .i64 t1.Kind,.int .i64 (min_ (IntKind.i64.wrap (t1.Cost + x0.SPlus)) 16777215),.int .u32 x0.STag]),(2,.box [.int .u32 t1.P.A,.int .i64 t1.P.N,.int .i64 t1.Kind,.int .i64 (min_ (IntKind.i64.wrap (t1.Cost + x0.SPlus)) 16777215),.int .u32 x0.STag])]) (zk:=3) rfl rfl rfl rfl rfl (GX.done (WK.ret ?_)))))))
    subst hR
    exact RetQ.fr [] (.inr rfl) rfl rfl rfl rfl
theorem f88_ok (m0:List zx) (t1:zq) (R:zq × Bool × Int) (hR:F88 m0 t1 = R):FnOk Tryz.prog 88 [.ro 12 (m0.map zx.c),.agg (zq.c t1)] [] 0 (.tup [.agg (zq.c R.1),.bool R.2.1,.int .i64 R.2.2]) [] 0:=by
 refine FnOk.wk i88 rfl rfl ?_
 unfold F88 at hR
 change WK _ _ _ [ac88] _ ⟨[(0,.ro 12 (m0.map zx.c)),(1,.agg (zq.c t1))],[],0⟩
 unfold ac88
 refine WK.sr qv (GX.step (v':=.ptr 0 0) (zj:=[(0,.box (zq.c t1))]) (zk:=1) rfl rfl rfl rfl rfl rfl rfl (GX.step (v':=.ptr 1 0) (zj:=[(0,.box (zq.c t1)),(1,.box [.int .u32 0,.int .i64 0,.int .i64 0,.int .i64 0,.int .u32 0])]) (zk:=2) rfl rfl rfl rfl rfl rfl rfl (GX.m rfl (GX.m rfl (GX.done (WK.sr qv (GX.m rfl (GX.q (.fn 120 [] [.ptr 0 0]) ?_))))))))
 generalize hc10:F119 m0 (fun y0=>F120 y0 t1) = c10 at hR
 try dsimp only at hR
 refine GX.callbp (r:=.int .i64 c10) [0] rfl rfl rfl rfl (f119_ok m0 120 [] [.rptr (zq.c t1)] (fun y0=>F120 y0 t1) ⟨rfl,rfl⟩ (fun y0 _ hr=>f120_ok y0 t1 _ hr) _ hc10) rfl rfl (GX.m rfl (GX.done (WK.seq ?_)))
 refine WK.blockK (fun _ hK1=>?_)
 refine WK.sr qv (GX.m rfl (GX.q (.bool (decide (c10 < 0))) (GX.m rfl (GX.done ?_))))
 rcases qq (decide (c10 < 0)) with hb2 | hb2
 ·rw [hb2]; try simp only [hb2,bb] at hR
  refine WK.condF rfl (WK.sr qv (GX.m rfl (GX.m rfl (GX.idxT (c:=zx.c) (x:=(m0.getD c10.toNat default)) rfl rfl rfl (by ((try simp only [decide_eq_true_eq,decide_eq_false_iff_not,Bool.not_eq_true,Bool.not_eq_false] at *); first | omega | (rw [wrap64_of (by omega) (by omega)]; omega) | (unfold min_ max_; (repeat' split) <;> first | omega | (rw [wrap64_of (by omega) (by omega)]; omega)))) (getD_at (by exact F119lt (by assumption) (by assumption))) (GX.q (.rptr [.bool ((m0.getD c10.toNat default).Permit),.ro 6 (((m0.getD c10.toNat default).Listf).map zv.c),.int .i64 ((m0.getD c10.toNat default).MKind),.int .i64 ((m0.getD c10.toNat default).MLow),.int .i64 ((m0.getD c10.toNat default).MHigh),.ro 1 (((m0.getD c10.toNat default).MTags).map c_u32),.int .i64 ((m0.getD c10.toNat default).SCost),.int .i64 ((m0.getD c10.toNat default).SPlus),.int .i64 ((m0.getD c10.toNat default).SKind),.bool ((m0.getD c10.toNat default).SetTag),.int .u32 ((m0.getD c10.toNat default).STag)]) (GX.q (.bool ((m0.getD c10.toNat default).Permit)) (GX.q (.bool (!((m0.getD c10.toNat default).Permit))) (GX.m rfl (GX.done ?_)))))))))
  rcases qq ((m0.getD c10.toNat default).Permit) with hb3 | hb3
  ·rw [hb3]; try simp only [hb3,bb] at hR
   refine WK.condT rfl (WK.seq (WK.drawn qv (RD.q (.agg [.int .u32 0,.int .i64 0,.int .i64 0,.int .i64 0,.int .u32 0]) (RD.m rfl (RD.m rfl (RD.idxT (c:=zx.c) (x:=(m0.getD c10.toNat default)) rfl rfl rfl (by ((try simp only [decide_eq_true_eq,decide_eq_false_iff_not,Bool.not_eq_true,Bool.not_eq_false] at *); first | omega | (rw [wrap64_of (by omega) (by omega)]; omega) | (unfold min_ max_; (repeat' split) <;> first | omega | (rw [wrap64_of (by omega) (by omega)]; omega)))) (getD_at (by exact F119lt (by assumption) (by assumption))) (RD.q (.rptr [.int .i64 ((m0.getD c10.toNat default).Seq),.bool ((m0.getD c10.toNat default).Permit),.ro 6 (((m0.getD c10.toNat default).Listf).map zv.c),.int .i64 ((m0.getD c10.toNat default).MKind),.int .i64 ((m0.getD c10.toNat default).MLow),.int .i64 ((m0.getD c10.toNat default).MHigh),.ro 1 (((m0.getD c10.toNat default).MTags).map c_u32),.int .i64 ((m0.getD c10.toNat default).SCost),.int .i64 ((m0.getD c10.toNat default).SPlus),.int .i64 ((m0.getD c10.toNat default).SKind),.bool ((m0.getD c10.toNat default).SetTag),.int .u32 ((m0.getD c10.toNat default).STag)]) (RD.q (.int .i64 ((m0.getD c10.toNat default).Seq)) (RD.step0 (zj:=[(0,.box (zq.c t1)),(1,.box [.int .u32 0,.int .i64 0,.int .i64 0,.int .i64 0,.int .u32 0])]) (zk:=2) rfl rfl rfl rfl rfl (RD.m rfl (RD.m rfl (RD.done rfl (WK.ret ?_)))))))))))))
   refine QF.ret ?_
   subst hR
   exact RetQ.fr [] (.inr rfl) rfl rfl rfl rfl
  ·rw [hb3]; try simp only [hb3,bb] at hR
   refine WK.condF rfl (WK.skip ?_)
   refine WK.nil (QF.normal (hK1 _ ?_))
   refine WK.seq (WK.drawn qv (RD.m rfl (RD.m rfl (RD.idxT (c:=zx.c) (x:=(m0.getD c10.toNat default)) rfl rfl rfl (by ((try simp only [decide_eq_true_eq,decide_eq_false_iff_not,Bool.not_eq_true,Bool.not_eq_false] at *); first | omega | (rw [wrap64_of (by omega) (by omega)]; omega) | (unfold min_ max_; (repeat' split) <;> first | omega | (rw [wrap64_of (by omega) (by omega)]; omega)))) (getD_at (by exact F119lt (by assumption) (by assumption))) (RD.q (.agg [.int .i64 ((m0.getD c10.toNat default).Seq),.bool ((m0.getD c10.toNat default).Permit),.ro 6 (((m0.getD c10.toNat default).Listf).map zv.c),.int .i64 ((m0.getD c10.toNat default).MKind),.int .i64 ((m0.getD c10.toNat default).MLow),.int .i64 ((m0.getD c10.toNat default).MHigh),.ro 1 (((m0.getD c10.toNat default).MTags).map c_u32),.int .i64 ((m0.getD c10.toNat default).SCost),.int .i64 ((m0.getD c10.toNat default).SPlus),.int .i64 ((m0.getD c10.toNat default).SKind),.bool ((m0.getD c10.toNat default).SetTag),.int .u32 ((m0.getD c10.toNat default).STag)]) (RD.q (.agg (zq.c t1)) ?_))))))
   generalize hc33:F122 (m0.getD c10.toNat default) t1 = c33 at hR
   try dsimp only at hR
   refine RD.callp (r:=.agg (zq.c c33)) rfl rfl rfl (f122_ok (m0.getD c10.toNat default) t1 _ hc33) rfl rfl (RD.m rfl (RD.m rfl (RD.idxT (c:=zx.c) (x:=(m0.getD c10.toNat default)) rfl rfl rfl (by ((try simp only [decide_eq_true_eq,decide_eq_false_iff_not,Bool.not_eq_true,Bool.not_eq_false] at *); first | omega | (rw [wrap64_of (by omega) (by omega)]; omega) | (unfold min_ max_; (repeat' split) <;> first | omega | (rw [wrap64_of (by omega) (by omega)]; omega)))) (getD_at (by exact F119lt (by assumption) (by assumption))) (RD.q (.rptr [.int .i64 ((m0.getD c10.toNat default).Seq),.bool ((m0.getD c10.toNat default).Permit),.ro 6 (((m0.getD c10.toNat default).Listf).map zv.c),.int .i64 ((m0.getD c10.toNat default).MKind),.int .i64 ((m0.getD c10.toNat default).MLow),.int .i64 ((m0.getD c10.toNat default).MHigh),.ro 1 (((m0.getD c10.toNat default).MTags).map c_u32),.int .i64 ((m0.getD c10.toNat default).SCost),.int .i64 ((m0.getD c10.toNat default).SPlus),.int .i64 ((m0.getD c10.toNat default).SKind),.bool ((m0.getD c10.toNat default).SetTag),.int .u32 ((m0.getD c10.toNat default).STag)]) (RD.q (.int .i64 ((m0.getD c10.toNat default).Seq)) (RD.step0 (zj:=[(0,.box (zq.c t1)),(1,.box (zq.c c33))]) (zk:=2) rfl rfl rfl rfl rfl (RD.m rfl (RD.m rfl (RD.done rfl (WK.ret ?_))))))))))
   subst hR
   exact RetQ.fr [] (.inr rfl) rfl rfl rfl rfl
 ·rw [hb2]; try simp only [hb2,bb] at hR
  refine WK.condT rfl (WK.sr qv (GX.q (.agg [.int .u32 0,.int .i64 0,.int .i64 0,.int .i64 0,.int .u32 0]) (GX.step0 (zj:=[(0,.box (zq.c t1)),(1,.box [.int .u32 0,.int .i64 0,.int .i64 0,.int .i64 0,.int .u32 0])]) (zk:=2) rfl rfl rfl rfl rfl (GX.m rfl (GX.m rfl (GX.done (WK.ret (QF.ret ?_))))))))
  subst hR
  exact RetQ.fr [] (.inr rfl) rfl rfl rfl rfl
theorem f47_ok (x0:zz) (c1:qj) (R:qj × Bool) (hR:F47 x0 c1 = some R):FnOk Tryz.prog 47 [.agg (zz.c x0),.agg (qj.c c1)] [] 0 (.tup [.agg (qj.c R.1),.bool R.2]) [] 0:=by
 refine FnOk.wk i47 rfl rfl ?_
 unfold F47 at hR
 try dsimp only at hR
 change WK _ _ _ [ac47] _ ⟨[(0,.agg (zz.c x0)),(1,.agg (qj.c c1))],[],0⟩
 unfold ac47
 refine WK.sr qv (GX.step (v':=.ptr 0 0) (zj:=[(0,.box (zz.c x0))]) (zk:=1) rfl rfl rfl rfl rfl rfl rfl (GX.step (v':=.ptr 1 0) (zj:=[(0,.box (zz.c x0)),(1,.box (qj.c c1))]) (zk:=2) rfl rfl rfl rfl rfl rfl rfl (GX.step (v':=.ptr 2 0) (zj:=[(0,.box (zz.c x0)),(1,.box (qj.c c1)),(2,.box [.int .u32 0,.int .i64 0,.int .i64 0,.int .i64 0,.int .i64 0,.int .i64 0,.int .u32 0,.bool false,.int .i64 0,.nils])]) (zk:=3) rfl rfl rfl rfl rfl rfl rfl (GX.m rfl (GX.done (WK.sr qv (GX.q (.ptr 1 0) (GX.q (.agg (zy.c c1.P)) (GX.q (.ptr 1 2) (GX.q (.int .i64 c1.Proto) (GX.q (.ptr 1 5) (GX.q (.int .i64 c1.Metric) (GX.q (.int .i64 (min_ c1.Metric 16777215)) ?_)))))))))))))
 refine GX.q (.ptr 1 6) (GX.q (.int .u32 c1.Tag) (GX.q (.agg [.int .u32 c1.P.A,.int .i64 c1.P.N,.int .i64 c1.Proto,.int .i64 (min_ c1.Metric 16777215),.int .u32 c1.Tag]) (GX.step (v':=.ptr 3 0) (zj:=[(0,.box (zz.c x0)),(1,.box (qj.c c1)),(2,.box [.int .u32 0,.int .i64 0,.int .i64 0,.int .i64 0,.int .i64 0,.int .i64 0,.int .u32 0,.bool false,.int .i64 0,.nils]),(3,.box [.int .u32 0,.int .i64 0,.int .i64 0,.int .i64 0,.int .u32 0])]) (zk:=4) rfl rfl rfl rfl rfl rfl rfl (GX.step0 (zj:=[(0,.box (zz.c x0)),(1,.box (qj.c c1)),(2,.box [.int .u32 0,.int .i64 0,.int .i64 0,.int .i64 0,.int .i64 0,.int .i64 0,.int .u32 0,.bool false,.int .i64 0,.nils]),(3,.box [.int .u32 c1.P.A,.int .i64 c1.P.N,.int .i64 c1.Proto,.int .i64 (min_ c1.Metric 16777215),.int .u32 c1.Tag])]) (zk:=4) rfl rfl rfl rfl rfl (GX.done (WK.seq (WK.sr qv (GX.q (.ptr 0 2) (GX.q (.ro 12 (x0.Map.map zx.c)) (GX.q (.agg [.int .u32 c1.P.A,.int .i64 c1.P.N,.int .i64 c1.Proto,.int .i64 (min_ c1.Metric 16777215),.int .u32 c1.Tag]) ?_))))))))))
 generalize hc24:F88 x0.Map (⟨c1.P,c1.Proto,min_ c1.Metric 16777215,c1.Tag⟩ : zq) = c24 at hR
 obtain ⟨c24a,c24b,c24c⟩:=c24; try dsimp only at hR
 refine GX.callp (r:=.tup [.agg (zq.c c24a),.bool c24b,.int .i64 c24c]) rfl rfl rfl (f88_ok x0.Map (⟨c1.P,c1.Proto,min_ c1.Metric 16777215,c1.Tag⟩ : zq) _ hc24) rfl rfl (GX.m rfl (GX.q (.agg (zq.c c24a)) (GX.q (.bool c24b) (GX.q (.int .i64 c24c) (GX.step (v':=.ptr 4 0) (zj:=[(0,.box (zz.c x0)),(1,.box (qj.c c1)),(2,.box [.int .u32 0,.int .i64 0,.int .i64 0,.int .i64 0,.int .i64 0,.int .i64 0,.int .u32 0,.bool false,.int .i64 0,.nils]),(3,.box [.int .u32 c1.P.A,.int .i64 c1.P.N,.int .i64 c1.Proto,.int .i64 (min_ c1.Metric 16777215),.int .u32 c1.Tag]),(4,.box [.int .u32 0,.int .i64 0,.int .i64 0,.int .i64 0,.int .u32 0])]) (zk:=5) rfl rfl rfl rfl rfl rfl rfl (GX.step0 (zj:=[(0,.box (zz.c x0)),(1,.box (qj.c c1)),(2,.box [.int .u32 0,.int .i64 0,.int .i64 0,.int .i64 0,.int .i64 0,.int .i64 0,.int .u32 0,.bool false,.int .i64 0,.nils]),(3,.box [.int .u32 c1.P.A,.int .i64 c1.P.N,.int .i64 c1.Proto,.int .i64 (min_ c1.Metric 16777215),.int .u32 c1.Tag]),(4,.box (zq.c c24a))]) (zk:=5) rfl rfl rfl rfl rfl (GX.m rfl (GX.m rfl (GX.done (WK.sr qv (GX.q (.ptr 1 7) (GX.q (.bool c1.Leaked) (GX.m rfl ?_)))))))))))))
 rcases qq (c1.Leaked) with hb1 | hb1
 ·rw [hb1]; first | replace hR:=kz hb1 hR | (try simp only [hb1,bb] at hR)
  refine GX.m rfl (GX.q (.bool (!c24b)) (GX.q (.bool (!c24b)) (GX.done ?_)))
  rcases qq (c24b) with hb2 | hb2
  ·rw [hb2]; first | replace hR:=kz hb2 hR | (try simp only [hb2,bb] at hR)
   refine WK.condT rfl (WK.sr qv (GX.q (.agg [.int .u32 0,.int .i64 0,.int .i64 0,.int .i64 0,.int .i64 0,.int .i64 0,.int .u32 0,.bool false,.int .i64 0,.nils]) (GX.step0 (zj:=[(0,.box (zz.c x0)),(1,.box (qj.c c1)),(2,.box [.int .u32 0,.int .i64 0,.int .i64 0,.int .i64 0,.int .i64 0,.int .i64 0,.int .u32 0,.bool false,.int .i64 0,.nils]),(3,.box [.int .u32 c1.P.A,.int .i64 c1.P.N,.int .i64 c1.Proto,.int .i64 (min_ c1.Metric 16777215),.int .u32 c1.Tag]),(4,.box (zq.c c24a))]) (zk:=5) rfl rfl rfl rfl rfl (GX.m rfl (GX.done (WK.ret ?_))))))
   obtain rfl:=Option.some.inj hR
   exact RetQ.frw [] (.inr rfl) rfl rfl rfl (.tup (.cons (.agg (.cons .refl (.cons .refl (.cons .refl (.cons .refl (.cons .refl (.cons .refl (.cons .refl (.cons .refl (.cons .refl (.cons .nil .refl))))))))))) .refl))
  ·rw [hb2]; first | replace hR:=ky hb2 hR | (try simp only [hb2,bb] at hR)
   refine WK.condF rfl (WK.skip (WK.seq (WK.drawn qv (RD.q (.ptr 0 0) (RD.q (.int .i64 x0.From) (RD.q (.ptr 1 7) (RD.step0 (zj:=[(0,.box (zz.c x0)),(1,.box [.int .u32 c1.P.A,.int .i64 c1.P.N,.int .i64 c1.Proto,.int .i64 c1.Inst,.int .i64 c1.Dist,.int .i64 c1.Metric,.int .u32 c1.Tag,.bool true,.int .i64 c1.From,.ro 2 (c1.Hops.map THop.c)]),(2,.box [.int .u32 0,.int .i64 0,.int .i64 0,.int .i64 0,.int .i64 0,.int .i64 0,.int .u32 0,.bool false,.int .i64 0,.nils]),(3,.box [.int .u32 c1.P.A,.int .i64 c1.P.N,.int .i64 c1.Proto,.int .i64 (min_ c1.Metric 16777215),.int .u32 c1.Tag]),(4,.box (zq.c c24a))]) (zk:=5) rfl rfl rfl rfl rfl (RD.q (.ptr 1 8) (RD.step0 (zj:=[(0,.box (zz.c x0)),(1,.box [.int .u32 c1.P.A,.int .i64 c1.P.N,.int .i64 c1.Proto,.int .i64 c1.Inst,.int .i64 c1.Dist,.int .i64 c1.Metric,.int .u32 c1.Tag,.bool true,.int .i64 x0.From,.ro 2 (c1.Hops.map THop.c)]),(2,.box [.int .u32 0,.int .i64 0,.int .i64 0,.int .i64 0,.int .i64 0,.int .i64 0,.int .u32 0,.bool false,.int .i64 0,.nils]),(3,.box [.int .u32 c1.P.A,.int .i64 c1.P.N,.int .i64 c1.Proto,.int .i64 (min_ c1.Metric 16777215),.int .u32 c1.Tag]),(4,.box (zq.c c24a))]) (zk:=5) rfl rfl rfl rfl rfl (RD.done rfl (WK.sr qv (GX.q (.agg [.int .u32 c1.P.A,.int .i64 c1.P.N,.int .i64 c1.Proto,.int .i64 c1.Inst,.int .i64 c1.Dist,.int .i64 c1.Metric,.int .u32 c1.Tag,.bool true,.int .i64 x0.From,.ro 2 (c1.Hops.map THop.c)]) (GX.step0 (zj:=[(0,.box (zz.c x0)),(1,.box [.int .u32 c1.P.A,.int .i64 c1.P.N,.int .i64 c1.Proto,.int .i64 c1.Inst,.int .i64 c1.Dist,.int .i64 c1.Metric,.int .u32 c1.Tag,.bool true,.int .i64 x0.From,.ro 2 (c1.Hops.map THop.c)]),(2,.box [.int .u32 c1.P.A,.int .i64 c1.P.N,.int .i64 c1.Proto,.int .i64 c1.Inst,.int .i64 c1.Dist,.int .i64 c1.Metric,.int .u32 c1.Tag,.bool true,.int .i64 x0.From,.ro 2 (c1.Hops.map THop.c)]),(3,.box [.int .u32 c1.P.A,.int .i64 c1.P.N,.int .i64 c1.Proto,.int .i64 (min_ c1.Metric 16777215),.int .u32 c1.Tag]),(4,.box (zq.c c24a))]) (zk:=5) rfl rfl rfl rfl rfl ?_)))))))))))))
   refine GX.m rfl (GX.done (WK.ret ?_))
   obtain rfl:=Option.some.inj hR
   exact RetQ.fr [] (.inr rfl) rfl rfl rfl rfl
 ·rw [hb1]; first | replace hR:=ky hb1 hR | (try simp only [hb1,bb] at hR)
  refine GX.skip rfl rfl (GX.skip rfl rfl (GX.q (.bool true) (GX.done (WK.condT rfl (WK.sr qv (GX.q (.agg [.int .u32 0,.int .i64 0,.int .i64 0,.int .i64 0,.int .i64 0,.int .i64 0,.int .u32 0,.bool false,.int .i64 0,.nils]) (GX.step0 (zj:=[(0,.box (zz.c x0)),(1,.box (qj.c c1)),(2,.box [.int .u32 0,.int .i64 0,.int .i64 0,.int .i64 0,.int .i64 0,.int .i64 0,.int .u32 0,.bool false,.int .i64 0,.nils]),(3,.box [.int .u32 c1.P.A,.int .i64 c1.P.N,.int .i64 c1.Proto,.int .i64 (min_ c1.Metric 16777215),.int .u32 c1.Tag]),(4,.box (zq.c c24a))]) (zk:=5) rfl rfl rfl rfl rfl (GX.m rfl (GX.done (WK.ret ?_))))))))))
  obtain rfl:=Option.some.inj hR
  exact RetQ.frw [] (.inr rfl) rfl rfl rfl (.tup (.cons (.agg (.cons .refl (.cons .refl (.cons .refl (.cons .refl (.cons .refl (.cons .refl (.cons .refl (.cons .refl (.cons .refl (.cons .nil .refl))))))))))) .refl))
theorem f56_ok (s10:List qj) (s21:List qj) (geq2:FuncId) (geq2f geq2c:List PVal) (heq2:qj → qj → Bool) (geq2k:PVal.closed.go geq2f = true ∧ PVal.closed.go geq2c = true) (geq2o : ∀ (y0:qj) (y1:qj) (R:Bool),heq2 y0 y1 = R → FnOk Tryz.prog geq2 (geq2f ++ [.agg (qj.c y0),.agg (qj.c y1)] ++ geq2c) [] 0 (.bool R) [] 0) (R:Bool) (hR:F56 s10 s21 heq2 = R):FnOk Tryz.prog 56 [.ro 10 (s10.map qj.c),.ro 10 (s21.map qj.c),.fn geq2 geq2f geq2c] [] 0 (.bool R) [] 0:=by
 refine FnOk.wk i56 rfl rfl ?_
 unfold F56 at hR
 change WK _ _ _ [ac56] _ ⟨[(0,.ro 10 (s10.map qj.c)),(1,.ro 10 (s21.map qj.c)),(2,.fn geq2 geq2f geq2c)],[],0⟩
 unfold ac56
 refine WK.sr qv (GX.m rfl (GX.done (WK.seq (WK.sr qv (GX.m rfl (GX.pure (v':=.int .i64 (s10.length:Int)) rfl rfl rfl rfl (ww _ _) (GX.m rfl (GX.pure (v':=.int .i64 (s21.length:Int)) rfl rfl rfl rfl (ww _ _) (GX.q (.bool (!decide ((s10.length:Int) = (s21.length:Int)))) (GX.done ?_))))))))))
 rcases qq (decide ((s10.length:Int) = (s21.length:Int))) with hb1 | hb1
 ·rw [hb1]; try simp only [hb1,bb] at hR
  refine WK.condT rfl (WK.sr qv (GX.m rfl (GX.done (WK.ret ?_))))
  subst hR
  exact RetQ.fr [] (.inr rfl) rfl rfl rfl rfl
 ·rw [hb1]; try simp only [hb1,bb] at hR
  refine WK.condF rfl (WK.skip (WK.seq (WK.sr qv (GX.m rfl (GX.pure (v':=.int .i64 (s10.length:Int)) rfl rfl rfl rfl (ww _ _) (GX.m rfl (GX.done ?_)))))))
  refine WK.len (t:=0) rfl (by simp) (fun ge2=>?_)
  rw [List.length_map] at ge2
  generalize gi2:F56l1 s21 heq2 0 s10 = gh2 at hR
  refine WK.forK (fun k s=>∃ (i17:Nat),i17 ≤ s10.length ∧ k = s10.length - i17 ∧ F56l1 s21 heq2 i17 (s10.drop i17) = gh2 ∧ s = ⟨[(1,.ro 10 (s21.map qj.c)),(2,.fn geq2 geq2f geq2c),(15,.ro 10 (s10.map qj.c)),(16,.int .i64 (s10.length:Int)),(17,.int .i64 (i17:Int))],[],0⟩) s10.length (by refine ⟨_,?_,0,(by omega),rfl,gi2,rfl⟩; exact Conv.keep [] [] [1,2,15,16,17] rfl rfl (qx rfl rfl (qx rfl (viewP_fnc geq2k) (qx rfl rfl (qx rfl rfl (qx rfl rfl qy))))) rfl rfl) ?_
  rintro _ _ ⟨i17,gj2,rfl,gg2,rfl⟩ gb2 gd2 gk2 ga2 gc2 gf2
  refine WK.sr qv (GX.q (.bool (decide ((i17:Int) < (s10.length:Int)))) (GX.done (WK.seq ?_)))
  rcases qq (decide ((i17:Int) < (s10.length:Int))) with hb3 | hb3
  ·rw [hb3]
   rw [drop_end hb3,F56l1] at gg2
   refine WK.condF rfl (WK.exit ?_)
   refine QF.exit (gc2 _ ?_)
   subst gg2
   try dsimp only [cond_true,cond_false] at hR
   refine WK.sr qv (GX.m rfl (GX.done (WK.ret ?_)))
   subst hR
   exact RetQ.fr [] (.inr rfl) rfl rfl rfl rfl
  ·rw [hb3]
   obtain ⟨x17,hx2,hd2,hlt2⟩:=drop_more hb3
   rw [hd2,F56l1] at gg2
   refine WK.condT rfl (WK.skip (WK.seq ?_))
   refine WK.blockK (fun _ hK4=>?_)
   refine WK.sr qv (GX.m rfl (GX.idxT (c:=qj.c) (x:=x17) rfl rfl rfl (Int.natCast_nonneg _) hx2 (GX.q (.agg (qj.c x17)) (GX.step (v':=.ptr 0 0) (zj:=[(0,.box [.int .u32 0,.int .i64 0,.int .i64 0,.int .i64 0,.int .i64 0,.int .i64 0,.int .u32 0,.bool false,.int .i64 0,.nils])]) (zk:=1) rfl rfl rfl rfl rfl rfl rfl (GX.m rfl (GX.step0 (zj:=[(0,.box (qj.c x17))]) (zk:=1) rfl rfl rfl rfl rfl (GX.done (WK.sr qv (GX.m rfl (GX.m rfl (GX.idxT (c:=qj.c) (x:=(s21.getD i17 default)) rfl rfl rfl (Int.natCast_nonneg _) (getD_at (by ((try simp only [decide_eq_true_eq,decide_eq_false_iff_not,Bool.not_eq_true,Bool.not_eq_false] at *); first | omega | (rw [wrap64_of (by omega) (by omega)]; omega) | (unfold min_ max_; (repeat' split) <;> first | omega | (rw [wrap64_of (by omega) (by omega)]; omega))))) (GX.q (.agg [.int .u32 (((s21.getD i17 default).P).A),.int .i64 (((s21.getD i17 default).P).N),.int .i64 ((s21.getD i17 default).Proto),.int .i64 ((s21.getD i17 default).Inst),.int .i64 ((s21.getD i17 default).Dist),.int .i64 ((s21.getD i17 default).Metric),.int .u32 ((s21.getD i17 default).Tag),.bool ((s21.getD i17 default).Leaked),.int .i64 ((s21.getD i17 default).From),.ro 2 (((s21.getD i17 default).Hops).map THop.c)]) (GX.step (v':=.ptr 1 0) (zj:=[(0,.box (qj.c x17)),(1,.box [.int .u32 0,.int .i64 0,.int .i64 0,.int .i64 0,.int .i64 0,.int .i64 0,.int .u32 0,.bool false,.int .i64 0,.nils])]) (zk:=2) rfl rfl rfl rfl rfl rfl rfl ?_)))))))))))))
   refine GX.step0 (zj:=[(0,.box (qj.c x17)),(1,.box [.int .u32 (((s21.getD i17 default).P).A),.int .i64 (((s21.getD i17 default).P).N),.int .i64 ((s21.getD i17 default).Proto),.int .i64 ((s21.getD i17 default).Inst),.int .i64 ((s21.getD i17 default).Dist),.int .i64 ((s21.getD i17 default).Metric),.int .u32 ((s21.getD i17 default).Tag),.bool ((s21.getD i17 default).Leaked),.int .i64 ((s21.getD i17 default).From),.ro 2 (((s21.getD i17 default).Hops).map THop.c)])]) (zk:=2) rfl rfl rfl rfl rfl (GX.done (WK.sr qv (GX.m rfl (GX.q (.agg (qj.c x17)) (GX.q (.agg [.int .u32 (((s21.getD i17 default).P).A),.int .i64 (((s21.getD i17 default).P).N),.int .i64 ((s21.getD i17 default).Proto),.int .i64 ((s21.getD i17 default).Inst),.int .i64 ((s21.getD i17 default).Dist),.int .i64 ((s21.getD i17 default).Metric),.int .u32 ((s21.getD i17 default).Tag),.bool ((s21.getD i17 default).Leaked),.int .i64 ((s21.getD i17 default).From),.ro 2 (((s21.getD i17 default).Hops).map THop.c)]) ?_)))))
   generalize hc29:heq2 x17 (⟨((s21.getD i17 default).P),(s21.getD i17 default).Proto,(s21.getD i17 default).Inst,(s21.getD i17 default).Dist,(s21.getD i17 default).Metric,(s21.getD i17 default).Tag,(s21.getD i17 default).Leaked,(s21.getD i17 default).From,(s21.getD i17 default).Hops⟩ : qj) = c29 at gg2
   try dsimp only at gg2
   refine GX.callvp (r:=.bool c29) rfl rfl rfl (geq2o x17 (⟨((s21.getD i17 default).P),(s21.getD i17 default).Proto,(s21.getD i17 default).Inst,(s21.getD i17 default).Dist,(s21.getD i17 default).Metric,(s21.getD i17 default).Tag,(s21.getD i17 default).Leaked,(s21.getD i17 default).From,(s21.getD i17 default).Hops⟩ : qj) _ hc29) (closed3 geq2k.1 rfl geq2k.2) rfl (GX.q (.bool (!c29)) (GX.done ?_))
   rcases qq (c29) with hb5 | hb5
   ·rw [hb5]; try simp only [hb5,bb] at gg2
    refine WK.condT rfl (WK.sr qv (GX.m rfl (GX.done (WK.ret (QF.ret ?_)))))
    refine QF.ret (gf2 _ _ ?_)
    subst gg2
    subst hR
    exact RetQ.fr [] (.inr rfl) rfl rfl rfl rfl
   ·rw [hb5]; try simp only [hb5,bb] at gg2
    refine WK.condF rfl (WK.skip ?_)
    refine WK.nil (QF.normal (hK4 _ ?_))
    refine WK.regx qv (GX.pure (v':=.int .i64 ((i17 + 1:Nat):Int)) rfl rfl rfl rfl (congrArg (PVal.int .i64) (wrap_up hlt2 ge2)) (GX.m rfl (GX.done ?_)))
    refine WK.nil (QF.normal ?_)
    refine ga2 _ (s10.length - (i17 + 1)) _ (by omega) ?_ ⟨i17 + 1,(by omega),rfl,gg2,rfl⟩
    exact Conv.keep [] [] [1,2,15,16,17] rfl rfl (qx rfl rfl (qx rfl (viewP_fnc geq2k) (qx rfl rfl (qx rfl rfl (qx rfl rfl qy))))) rfl rfl
theorem f97_ok (s10:List THop) (s21:List THop) (R:Bool) (hR:F97 s10 s21 = R):FnOk Tryz.prog 97 [.ro 2 (s10.map THop.c),.ro 2 (s21.map THop.c)] [] 0 (.bool R) [] 0:=by
 refine FnOk.wk i97 rfl rfl ?_
 unfold F97 at hR
 change WK _ _ _ [ac97] _ ⟨[(0,.ro 2 (s10.map THop.c)),(1,.ro 2 (s21.map THop.c))],[],0⟩
 unfold ac97
 refine WK.sr qv (GX.m rfl (GX.done (WK.seq (WK.sr qv (GX.m rfl (GX.pure (v':=.int .i64 (s10.length:Int)) rfl rfl rfl rfl (ww _ _) (GX.m rfl (GX.pure (v':=.int .i64 (s21.length:Int)) rfl rfl rfl rfl (ww _ _) (GX.q (.bool (!decide ((s10.length:Int) = (s21.length:Int)))) (GX.done ?_))))))))))
 rcases qq (decide ((s10.length:Int) = (s21.length:Int))) with hb1 | hb1
 ·rw [hb1]; try simp only [hb1,bb] at hR
  refine WK.condT rfl (WK.sr qv (GX.m rfl (GX.done (WK.ret ?_))))
  subst hR
  exact RetQ.fr [] (.inr rfl) rfl rfl rfl rfl
 ·rw [hb1]; try simp only [hb1,bb] at hR
  refine WK.condF rfl (WK.skip (WK.seq (WK.sr qv (GX.m rfl (GX.pure (v':=.int .i64 (s10.length:Int)) rfl rfl rfl rfl (ww _ _) (GX.m rfl (GX.done ?_)))))))
  refine WK.len (t:=0) rfl (by simp) (fun ge2=>?_)
  rw [List.length_map] at ge2
  generalize gi2:F97l1 s21 0 s10 = gh2 at hR
  refine WK.forK (fun k s=>∃ (i13:Nat),i13 ≤ s10.length ∧ k = s10.length - i13 ∧ F97l1 s21 i13 (s10.drop i13) = gh2 ∧ s = ⟨[(0,.ro 2 (s10.map THop.c)),(1,.ro 2 (s21.map THop.c)),(12,.int .i64 (s10.length:Int)),(13,.int .i64 (i13:Int))],[],0⟩) s10.length (by refine ⟨_,?_,0,(by omega),rfl,gi2,rfl⟩; exact Conv.keep [] [] [0,1,12,13] rfl rfl (qx rfl rfl (qx rfl rfl (qx rfl rfl (qx rfl rfl qy)))) rfl rfl) ?_
  rintro _ _ ⟨i13,gj2,rfl,gg2,rfl⟩ gb2 gd2 gk2 ga2 gc2 gf2
  refine WK.sr qv (GX.q (.bool (decide ((i13:Int) < (s10.length:Int)))) (GX.done (WK.seq ?_)))
  rcases qq (decide ((i13:Int) < (s10.length:Int))) with hb3 | hb3
  ·rw [hb3]
   rw [drop_end hb3,F97l1] at gg2
   refine WK.condF rfl (WK.exit ?_)
   refine QF.exit (gc2 _ ?_)
   subst gg2
   try dsimp only [cond_true,cond_false] at hR
   refine WK.sr qv (GX.m rfl (GX.done (WK.ret ?_)))
   subst hR
   exact RetQ.fr [] (.inr rfl) rfl rfl rfl rfl
  ·rw [hb3]
   obtain ⟨x13,hx2,hd2,hlt2⟩:=drop_more hb3
   rw [hd2,F97l1] at gg2
   refine WK.condT rfl (WK.skip (WK.seq ?_))
   refine WK.blockK (fun _ hK4=>?_)
   refine WK.sr qv (GX.m rfl (GX.m rfl (GX.done (WK.seq (WK.drawn qv (RD.m rfl (RD.m rfl (RD.idxT (c:=THop.c) (x:=x13) rfl rfl rfl (Int.natCast_nonneg _) hx2 (RD.q (.agg (THop.c x13)) (RD.m rfl (RD.m rfl (RD.idxT (c:=THop.c) (x:=(s21.getD i13 default)) rfl rfl rfl (Int.natCast_nonneg _) (getD_at (by ((try simp only [decide_eq_true_eq,decide_eq_false_iff_not,Bool.not_eq_true,Bool.not_eq_false] at *); first | omega | (rw [wrap64_of (by omega) (by omega)]; omega) | (unfold min_ max_; (repeat' split) <;> first | omega | (rw [wrap64_of (by omega) (by omega)]; omega))))) (RD.q (.agg [.int .i64 ((s21.getD i13 default).Iface),.int .u32 ((s21.getD i13 default).Gate)]) ?_)))))))))))))
   refine RD.q (.bool (!(decide (x13.Iface = (s21.getD i13 default).Iface) && (decide (x13.Gate = (s21.getD i13 default).Gate) && true)))) (RD.done rfl ?_)
   rcases qq (decide (x13.Iface = (s21.getD i13 default).Iface) && (decide (x13.Gate = (s21.getD i13 default).Gate) && true)) with hb5 | hb5
   ·rw [hb5]; try simp only [hb5,bb] at gg2
    refine WK.condT rfl (WK.sr qv (GX.m rfl (GX.done (WK.ret (QF.ret ?_)))))
    refine QF.ret (gf2 _ _ ?_)
    subst gg2
    subst hR
    exact RetQ.fr [] (.inr rfl) rfl rfl rfl rfl
   ·rw [hb5]; try simp only [hb5,bb] at gg2
    refine WK.condF rfl (WK.skip ?_)
    refine WK.nil (QF.normal (hK4 _ ?_))
    refine WK.regx qv (GX.pure (v':=.int .i64 ((i13 + 1:Nat):Int)) rfl rfl rfl rfl (congrArg (PVal.int .i64) (wrap_up hlt2 ge2)) (GX.m rfl (GX.done ?_)))
    refine WK.nil (QF.normal ?_)
    refine ga2 _ (s10.length - (i13 + 1)) _ (by omega) ?_ ⟨i13 + 1,(by omega),rfl,gg2,rfl⟩
    exact Conv.keep [] [] [0,1,12,13] rfl rfl (qx rfl rfl (qx rfl rfl (qx rfl rfl (qx rfl rfl qy)))) rfl rfl
theorem f57_ok (a0:qj) (b1:qj) (R:Bool) (hR:F57 a0 b1 = R):FnOk Tryz.prog 57 [.agg (qj.c a0),.agg (qj.c b1)] [] 0 (.bool R) [] 0:=by
 refine FnOk.wk i57 rfl rfl ?_
 unfold F57 at hR
 change WK _ _ _ [ac57] _ ⟨[(0,.agg (qj.c a0)),(1,.agg (qj.c b1))],[],0⟩
 unfold ac57
 refine WK.sr qv (GX.step (v':=.ptr 0 0) (zj:=[(0,.box (qj.c a0))]) (zk:=1) rfl rfl rfl rfl rfl rfl rfl (GX.step (v':=.ptr 1 0) (zj:=[(0,.box (qj.c a0)),(1,.box (qj.c b1))]) (zk:=2) rfl rfl rfl rfl rfl rfl rfl (GX.m rfl (GX.done (WK.sr qv (GX.q (.ptr 0 9) (GX.q (.ro 2 (a0.Hops.map THop.c)) (GX.q (.ptr 1 9) (GX.q (.ro 2 (b1.Hops.map THop.c)) ?_)))))))))
 generalize hc11:F97 a0.Hops b1.Hops = c11 at hR
 try dsimp only at hR
 refine GX.callp (r:=.bool c11) rfl rfl rfl (f97_ok a0.Hops b1.Hops _ hc11) rfl rfl (GX.m rfl (GX.done (WK.sr qv (GX.q (.ptr 0 9) (GX.step0 (zj:=[(0,.box [.int .u32 a0.P.A,.int .i64 a0.P.N,.int .i64 a0.Proto,.int .i64 a0.Inst,.int .i64 a0.Dist,.int .i64 a0.Metric,.int .u32 a0.Tag,.bool a0.Leaked,.int .i64 a0.From,.nils]),(1,.box (qj.c b1))]) (zk:=2) rfl rfl rfl rfl rfl (GX.q (.ptr 1 9) (GX.step0 (zj:=[(0,.box [.int .u32 a0.P.A,.int .i64 a0.P.N,.int .i64 a0.Proto,.int .i64 a0.Inst,.int .i64 a0.Dist,.int .i64 a0.Metric,.int .u32 a0.Tag,.bool a0.Leaked,.int .i64 a0.From,.nils]),(1,.box [.int .u32 b1.P.A,.int .i64 b1.P.N,.int .i64 b1.Proto,.int .i64 b1.Inst,.int .i64 b1.Dist,.int .i64 b1.Metric,.int .u32 b1.Tag,.bool b1.Leaked,.int .i64 b1.From,.nils])]) (zk:=2) rfl rfl rfl rfl rfl (GX.done (WK.sr qv (GX.q (.ptr 0 0) (GX.q (.agg (zy.c a0.P)) (GX.q (.ptr 1 0) (GX.q (.agg (zy.c b1.P)) ?_)))))))))))))
 refine GX.q (.bool (decide (a0.P.A = b1.P.A) && (decide (a0.P.N = b1.P.N) && true))) (GX.m rfl ?_)
 rcases qq ((decide (a0.P.A = b1.P.A) && (decide (a0.P.N = b1.P.N) && true))) with hb1 | hb1
 ·rw [hb1]; try simp only [hb1,bb] at hR
  iterate 5 refine GX.skip rfl rfl ?_
  refine GX.q (.bool false) (GX.m rfl ?_)
  iterate 5 refine GX.skip rfl rfl ?_
  refine GX.q (.bool false) (GX.m rfl ?_)
  iterate 5 refine GX.skip rfl rfl ?_
  refine GX.q (.bool false) (GX.m rfl ?_)
  iterate 5 refine GX.skip rfl rfl ?_
  refine GX.q (.bool false) (GX.m rfl ?_)
  iterate 5 refine GX.skip rfl rfl ?_
  refine GX.q (.bool false) (GX.m rfl ?_)
  iterate 5 refine GX.skip rfl rfl ?_
  refine GX.q (.bool false) (GX.m rfl ?_)
  iterate 5 refine GX.skip rfl rfl ?_
  refine GX.q (.bool false) (GX.m rfl (GX.done (WK.sr qv (GX.m rfl (GX.m rfl ?_)))))
  rcases qq (c11) with hb2 | hb2
  ·rw [hb2]; try simp only [hb2,bb] at hR
   refine GX.skip rfl rfl (GX.q (.bool false) (GX.m rfl (GX.done (WK.ret ?_))))
   subst hR
   exact RetQ.fr [] (.inr rfl) rfl rfl rfl rfl
  ·rw [hb2]; try simp only [hb2,bb] at hR
   refine GX.m rfl (GX.q (.bool false) (GX.m rfl (GX.done (WK.ret ?_))))
   subst hR
   exact RetQ.fr [] (.inr rfl) rfl rfl rfl rfl
 ·rw [hb1]; try simp only [hb1,bb] at hR
  refine GX.q (.ptr 0 2) (GX.q (.int .i64 a0.Proto) (GX.q (.ptr 1 2) (GX.q (.int .i64 b1.Proto) (GX.q (.bool (decide (a0.Proto = b1.Proto))) (GX.q (.bool (decide (a0.Proto = b1.Proto))) (GX.m rfl ?_))))))
  rcases qq (decide (a0.Proto = b1.Proto)) with hb3 | hb3
  ·rw [hb3]; try simp only [hb3,bb] at hR
   iterate 5 refine GX.skip rfl rfl ?_
   refine GX.q (.bool false) (GX.m rfl ?_)
   iterate 5 refine GX.skip rfl rfl ?_
   refine GX.q (.bool false) (GX.m rfl ?_)
   iterate 5 refine GX.skip rfl rfl ?_
   refine GX.q (.bool false) (GX.m rfl ?_)
   iterate 5 refine GX.skip rfl rfl ?_
   refine GX.q (.bool false) (GX.m rfl ?_)
   iterate 5 refine GX.skip rfl rfl ?_
   refine GX.q (.bool false) (GX.m rfl ?_)
   iterate 5 refine GX.skip rfl rfl ?_
   refine GX.q (.bool false) (GX.m rfl (GX.done (WK.sr qv (GX.m rfl (GX.m rfl ?_)))))
   rcases qq (c11) with hb4 | hb4
   ·rw [hb4]; try simp only [hb4,bb] at hR
    refine GX.skip rfl rfl (GX.q (.bool false) (GX.m rfl (GX.done (WK.ret ?_))))
    subst hR
    exact RetQ.fr [] (.inr rfl) rfl rfl rfl rfl
   ·rw [hb4]; try simp only [hb4,bb] at hR
    refine GX.m rfl (GX.q (.bool false) (GX.m rfl (GX.done (WK.ret ?_))))
    subst hR
    exact RetQ.fr [] (.inr rfl) rfl rfl rfl rfl
  ·rw [hb3]; try simp only [hb3,bb] at hR
   refine GX.q (.ptr 0 3) (GX.q (.int .i64 a0.Inst) (GX.q (.ptr 1 3) (GX.q (.int .i64 b1.Inst) (GX.q (.bool (decide (a0.Inst = b1.Inst))) (GX.q (.bool (decide (a0.Inst = b1.Inst))) (GX.m rfl ?_))))))
   rcases qq (decide (a0.Inst = b1.Inst)) with hb5 | hb5
   ·rw [hb5]; try simp only [hb5,bb] at hR
    iterate 5 refine GX.skip rfl rfl ?_
    refine GX.q (.bool false) (GX.m rfl ?_)
    iterate 5 refine GX.skip rfl rfl ?_
    refine GX.q (.bool false) (GX.m rfl ?_)
    iterate 5 refine GX.skip rfl rfl ?_
    refine GX.q (.bool false) (GX.m rfl ?_)
    iterate 5 refine GX.skip rfl rfl ?_
    refine GX.q (.bool false) (GX.m rfl ?_)
    iterate 5 refine GX.skip rfl rfl ?_
    refine GX.q (.bool false) (GX.m rfl (GX.done (WK.sr qv (GX.m rfl (GX.m rfl ?_)))))
    rcases qq (c11) with hb6 | hb6
    ·rw [hb6]; try simp only [hb6,bb] at hR
     refine GX.skip rfl rfl (GX.q (.bool false) (GX.m rfl (GX.done (WK.ret ?_))))
     subst hR
     exact RetQ.fr [] (.inr rfl) rfl rfl rfl rfl
    ·rw [hb6]; try simp only [hb6,bb] at hR
     refine GX.m rfl (GX.q (.bool false) (GX.m rfl (GX.done (WK.ret ?_))))
     subst hR
     exact RetQ.fr [] (.inr rfl) rfl rfl rfl rfl
   ·rw [hb5]; try simp only [hb5,bb] at hR
    refine GX.q (.ptr 0 4) (GX.q (.int .i64 a0.Dist) (GX.q (.ptr 1 4) (GX.q (.int .i64 b1.Dist) (GX.q (.bool (decide (a0.Dist = b1.Dist))) (GX.q (.bool (decide (a0.Dist = b1.Dist))) (GX.m rfl ?_))))))
    rcases qq (decide (a0.Dist = b1.Dist)) with hb7 | hb7
    ·rw [hb7]; try simp only [hb7,bb] at hR
     iterate 5 refine GX.skip rfl rfl ?_
     refine GX.q (.bool false) (GX.m rfl ?_)
     iterate 5 refine GX.skip rfl rfl ?_
     refine GX.q (.bool false) (GX.m rfl ?_)
     iterate 5 refine GX.skip rfl rfl ?_
     refine GX.q (.bool false) (GX.m rfl ?_)
     iterate 5 refine GX.skip rfl rfl ?_
     refine GX.q (.bool false) (GX.m rfl (GX.done (WK.sr qv (GX.m rfl (GX.m rfl ?_)))))
     rcases qq (c11) with hb8 | hb8
     ·rw [hb8]; try simp only [hb8,bb] at hR
      refine GX.skip rfl rfl (GX.q (.bool false) (GX.m rfl (GX.done (WK.ret ?_))))
      subst hR
      exact RetQ.fr [] (.inr rfl) rfl rfl rfl rfl
     ·rw [hb8]; try simp only [hb8,bb] at hR
      refine GX.m rfl (GX.q (.bool false) (GX.m rfl (GX.done (WK.ret ?_))))
      subst hR
      exact RetQ.fr [] (.inr rfl) rfl rfl rfl rfl
    ·rw [hb7]; try simp only [hb7,bb] at hR
     refine GX.q (.ptr 0 5) (GX.q (.int .i64 a0.Metric) (GX.q (.ptr 1 5) (GX.q (.int .i64 b1.Metric) (GX.q (.bool (decide (a0.Metric = b1.Metric))) (GX.q (.bool (decide (a0.Metric = b1.Metric))) (GX.m rfl ?_))))))
     rcases qq (decide (a0.Metric = b1.Metric)) with hb9 | hb9
     ·rw [hb9]; try simp only [hb9,bb] at hR
      iterate 5 refine GX.skip rfl rfl ?_
      refine GX.q (.bool false) (GX.m rfl ?_)
      iterate 5 refine GX.skip rfl rfl ?_
      refine GX.q (.bool false) (GX.m rfl ?_)
      iterate 5 refine GX.skip rfl rfl ?_
      refine GX.q (.bool false) (GX.m rfl (GX.done (WK.sr qv (GX.m rfl (GX.m rfl ?_)))))
      rcases qq (c11) with hb10 | hb10
      ·rw [hb10]; try simp only [hb10,bb] at hR
       refine GX.skip rfl rfl (GX.q (.bool false) (GX.m rfl (GX.done (WK.ret ?_))))
       subst hR
       exact RetQ.fr [] (.inr rfl) rfl rfl rfl rfl
      ·rw [hb10]; try simp only [hb10,bb] at hR
       refine GX.m rfl (GX.q (.bool false) (GX.m rfl (GX.done (WK.ret ?_))))
       subst hR
       exact RetQ.fr [] (.inr rfl) rfl rfl rfl rfl
     ·rw [hb9]; try simp only [hb9,bb] at hR
      refine GX.q (.ptr 0 6) (GX.q (.int .u32 a0.Tag) (GX.q (.ptr 1 6) (GX.q (.int .u32 b1.Tag) (GX.q (.bool (decide (a0.Tag = b1.Tag))) (GX.q (.bool (decide (a0.Tag = b1.Tag))) (GX.m rfl ?_))))))
      rcases qq (decide (a0.Tag = b1.Tag)) with hb11 | hb11
      ·rw [hb11]; try simp only [hb11,bb] at hR
       iterate 5 refine GX.skip rfl rfl ?_
       refine GX.q (.bool false) (GX.m rfl ?_)
       iterate 5 refine GX.skip rfl rfl ?_
       refine GX.q (.bool false) (GX.m rfl (GX.done (WK.sr qv (GX.m rfl (GX.m rfl ?_)))))
       rcases qq (c11) with hb12 | hb12
       ·rw [hb12]; try simp only [hb12,bb] at hR
        refine GX.skip rfl rfl (GX.q (.bool false) (GX.m rfl (GX.done (WK.ret ?_))))
        subst hR
        exact RetQ.fr [] (.inr rfl) rfl rfl rfl rfl
       ·rw [hb12]; try simp only [hb12,bb] at hR
        refine GX.m rfl (GX.q (.bool false) (GX.m rfl (GX.done (WK.ret ?_))))
        subst hR
        exact RetQ.fr [] (.inr rfl) rfl rfl rfl rfl
      ·rw [hb11]; try simp only [hb11,bb] at hR
       refine GX.q (.ptr 0 7) (GX.q (.bool a0.Leaked) (GX.q (.ptr 1 7) (GX.q (.bool b1.Leaked) (GX.q (.bool (a0.Leaked == b1.Leaked)) (GX.q (.bool (a0.Leaked == b1.Leaked)) (GX.m rfl ?_))))))
       rcases qq ((a0.Leaked == b1.Leaked)) with hb13 | hb13
       ·rw [hb13]; try simp only [hb13,bb] at hR
        iterate 5 refine GX.skip rfl rfl ?_
        refine GX.q (.bool false) (GX.m rfl (GX.done (WK.sr qv (GX.m rfl (GX.m rfl ?_)))))
        rcases qq (c11) with hb14 | hb14
        ·rw [hb14]; try simp only [hb14,bb] at hR
         refine GX.skip rfl rfl (GX.q (.bool false) (GX.m rfl (GX.done (WK.ret ?_))))
         subst hR
         exact RetQ.fr [] (.inr rfl) rfl rfl rfl rfl
        ·rw [hb14]; try simp only [hb14,bb] at hR
         refine GX.m rfl (GX.q (.bool false) (GX.m rfl (GX.done (WK.ret ?_))))
         subst hR
         exact RetQ.fr [] (.inr rfl) rfl rfl rfl rfl
       ·rw [hb13]; try simp only [hb13,bb] at hR
        refine GX.q (.ptr 0 8) (GX.q (.int .i64 a0.From) (GX.q (.ptr 1 8) (GX.q (.int .i64 b1.From) (GX.q (.bool (decide (a0.From = b1.From))) (GX.q (.bool (decide (a0.From = b1.From))) (GX.m rfl (GX.done (WK.sr qv (GX.m rfl (GX.m rfl ?_))))))))))
        rcases qq (c11) with hb15 | hb15
        ·rw [hb15]; try simp only [hb15,bb] at hR
         refine GX.skip rfl rfl (GX.q (.bool false) (GX.m rfl (GX.done (WK.ret ?_))))
         subst hR
         exact RetQ.fr [] (.inr rfl) rfl rfl rfl rfl
        ·rw [hb15]; try simp only [hb15,bb] at hR
         refine GX.m rfl (GX.q (.bool (decide (a0.From = b1.From))) (GX.m rfl (GX.done (WK.ret ?_))))
         subst hR
         exact RetQ.fr [] (.inr rfl) rfl rfl rfl rfl
theorem f148_ok (t0:qk) (h1:THop) (R:THop × Bool) (hR:F148 t0 h1 = some R):FnOk Tryz.prog 148 [.agg (qk.c t0),.agg (THop.c h1)] [] 0 (.tup [.agg (THop.c R.1),.bool R.2]) [] 0:=by
 refine FnOk.wk i148 rfl rfl ?_
 unfold F148 at hR
 try dsimp only at hR
 change WK _ _ _ [ac148] _ ⟨[(0,.agg (qk.c t0)),(1,.agg (THop.c h1))],[],0⟩
 unfold ac148
 refine WK.sr qv (GX.step (v':=.ptr 0 0) (zj:=[(0,.box (qk.c t0))]) (zk:=1) rfl rfl rfl rfl rfl rfl rfl (GX.step (v':=.ptr 1 0) (zj:=[(0,.box (qk.c t0)),(1,.box (THop.c h1))]) (zk:=2) rfl rfl rfl rfl rfl rfl rfl (GX.step (v':=.ptr 2 0) (zj:=[(0,.box (qk.c t0)),(1,.box (THop.c h1)),(2,.box [.int .i64 0,.int .u32 0])]) (zk:=3) rfl rfl rfl rfl rfl rfl rfl (GX.m rfl (GX.done (WK.seq (WK.sr qv (GX.q (.ptr 1 1) (GX.q (.int .u32 h1.Gate) (GX.q (.bool (decide (h1.Gate = 0))) (GX.done ?_)))))))))))
 rcases qq (decide (h1.Gate = 0)) with hb1 | hb1
 ·rw [hb1]; first | replace hR:=kz hb1 hR | (try simp only [hb1,bb] at hR)
  refine WK.condF rfl (WK.skip (WK.sr qv (GX.m rfl (GX.done (WK.seq (WK.sr qv (GX.q (.ptr 0 0) (GX.q (.ro 10 (t0.L.map qj.c)) (GX.pure (v':=.int .i64 (t0.L.length:Int)) rfl rfl rfl rfl (ww _ _) (GX.m rfl (GX.done ?_)))))))))))
  refine WK.len (t:=14) rfl (by simp) (fun ge8=>?_)
  rw [List.length_map] at ge8
  generalize gi8:F148l1 t0 h1 (-1) 0 t0.L = gh8 at hR
  refine WK.forK (fun k s=>∃ (i16:Nat) (at6:Int),i16 ≤ t0.L.length ∧ k = t0.L.length - i16 ∧ F148l1 t0 h1 at6 i16 (t0.L.drop i16) = gh8 ∧ s = ⟨[(2,.ptr 0 0),(3,.ptr 1 0),(4,.ptr 2 0),(6,.int .i64 at6),(14,.ro 10 (t0.L.map qj.c)),(15,.int .i64 (t0.L.length:Int)),(16,.int .i64 (i16:Int))],[(0,.box (qk.c t0)),(1,.box (THop.c h1)),(2,.box [.int .i64 0,.int .u32 0])],3⟩) t0.L.length (by refine ⟨_,?_,0,(-1),(by omega),rfl,gi8,rfl⟩; exact Conv.keep [0,1,2] [] [2,3,4,6,14,15,16] rfl rfl (qx rfl rfl (qx rfl rfl (qx rfl rfl (qx rfl rfl (qx rfl rfl (qx rfl rfl (qx rfl rfl qy))))))) rfl rfl) ?_
  rintro _ _ ⟨i16,at6,gj8,rfl,gg8,rfl⟩ gb8 gd8 gk8 ga8 gc8 gf8
  refine WK.sr qv (GX.q (.bool (decide ((i16:Int) < (t0.L.length:Int)))) (GX.done (WK.seq ?_)))
  rcases qq (decide ((i16:Int) < (t0.L.length:Int))) with hb9 | hb9
  ·rw [hb9]
   rw [drop_end hb9,F148l1] at gg8
   refine WK.condF rfl (WK.exit ?_)
   refine QF.exit (gc8 _ ?_)
   subst gg8
   replace hR:=obind_s hR; try dsimp only at hR
   refine WK.seq (WK.sr qv (GX.m rfl (GX.q (.bool (decide (at6 < 0))) (GX.done ?_))))
   rcases qq (decide (at6 < 0)) with hb10 | hb10
   ·rw [hb10]; first | replace hR:=kz hb10 hR | (try simp only [hb10,bb] at hR)
    refine WK.condF rfl (WK.skip (WK.seq (WK.drawn qv (RD.q (.ptr 0 0) (RD.q (.ro 10 (t0.L.map qj.c)) (RD.m rfl ?_))))))
    obtain ⟨x910,hx910,hR⟩:=wx hR; try dsimp only at hR
    obtain ⟨hx9100,hx910j,hx910l,hx910⟩:=kx hx910
    refine RD.idxT (c:=qj.c) (x:=x910) rfl rfl rfl hx9100 hx910 (RD.q (.rptr [.ro 2 (x910.Hops.map THop.c)]) (RD.q (.ro 2 (x910.Hops.map THop.c)) ?_))
    obtain ⟨x911,hx911,hR⟩:=wx hR; try dsimp only at hR
    obtain ⟨hx9110,hx911j,hx911l,hx911⟩:=kx hx911
    refine RD.idxT (c:=THop.c) (x:=x911) rfl rfl rfl hx9110 hx911 (RD.q (.rptr (THop.c x911)) (RD.q (.int .i64 x911.Iface) (RD.q (.ptr 1 1) (RD.q (.int .u32 h1.Gate) (RD.q (.agg [.int .i64 x911.Iface,.int .u32 h1.Gate]) (RD.step0 (zj:=[(0,.box (qk.c t0)),(1,.box (THop.c h1)),(2,.box [.int .i64 x911.Iface,.int .u32 h1.Gate])]) (zk:=3) rfl rfl rfl rfl rfl (RD.m rfl (RD.done rfl (WK.ret ?_)))))))))
    obtain rfl:=Option.some.inj hR
    exact RetQ.fr [] (.inr rfl) rfl rfl rfl rfl
   ·rw [hb10]; first | replace hR:=ky hb10 hR | (try simp only [hb10,bb] at hR)
    refine WK.condT rfl (WK.sr qv (GX.q (.agg [.int .i64 0,.int .u32 0]) (GX.step0 (zj:=[(0,.box (qk.c t0)),(1,.box (THop.c h1)),(2,.box [.int .i64 0,.int .u32 0])]) (zk:=3) rfl rfl rfl rfl rfl (GX.m rfl (GX.done (WK.ret ?_))))))
    obtain rfl:=Option.some.inj hR
    exact RetQ.fr [] (.inr rfl) rfl rfl rfl rfl
  ·rw [hb9]
   obtain ⟨x16,hx8,hd8,hlt8⟩:=drop_more hb9
   rw [hd8,F148l1] at gg8
   refine WK.condT rfl (WK.skip (WK.seq ?_))
   refine WK.blockK (fun _ hK13=>?_)
   refine WK.sr qv (GX.m rfl (GX.idxT (c:=qj.c) (x:=x16) rfl rfl rfl (Int.natCast_nonneg _) hx8 (GX.q (.agg (qj.c x16)) (GX.step (v':=.ptr 3 0) (zj:=[(0,.box (qk.c t0)),(1,.box (THop.c h1)),(2,.box [.int .i64 0,.int .u32 0]),(3,.box [.int .u32 0,.int .i64 0,.int .i64 0,.int .i64 0,.int .i64 0,.int .i64 0,.int .u32 0,.bool false,.int .i64 0,.nils])]) (zk:=4) rfl rfl rfl rfl rfl rfl rfl (GX.m rfl (GX.step0 (zj:=[(0,.box (qk.c t0)),(1,.box (THop.c h1)),(2,.box [.int .i64 0,.int .u32 0]),(3,.box (qj.c x16))]) (zk:=4) rfl rfl rfl rfl rfl (GX.done (WK.seq (WK.drawn qv (RD.q (.ptr 3 2) (RD.q (.int .i64 x16.Proto) (RD.q (.bool (decide (x16.Proto = 0))) (RD.m rfl ?_)))))))))))))
   rcases qq (decide (x16.Proto = 0)) with hb14 | hb14
   ·rw [hb14]; try simp only [hb14,bb] at gg8
    iterate 3 refine RD.skip rfl rfl ?_
    refine RD.q (.bool false) ?_
    refine RD.m rfl ?_
    iterate 5 refine RD.skip rfl rfl ?_
    refine RD.q (.bool false) (RD.m rfl ?_)
    iterate 15 refine RD.skip rfl rfl ?_
    refine RD.q (.bool false) (RD.doneB [0,1,3,7,15,31,63,127,255,511,1023,511,2559,8191,16383,32767,65535,131071,262143,524287,1048575,2097151,524287,4718591,524287,29884415,63438847,130547711,264765439,536870911,1073741823,2147483647] (by kernel_rfl) (by kernel_rfl) (by kernel_rfl) (WK.condF rfl (WK.skip ?_)))
    refine WK.nil (QF.normal (hK13 _ ?_))
    refine WK.regx qv (GX.pure (v':=.int .i64 ((i16 + 1:Nat):Int)) rfl rfl rfl rfl (congrArg (PVal.int .i64) (wrap_up hlt8 ge8)) (GX.m rfl (GX.done ?_)))
    refine WK.nil (QF.normal ?_)
    refine ga8 _ (t0.L.length - (i16 + 1)) _ (by omega) ?_ ⟨i16 + 1,at6,(by omega),rfl,gg8,rfl⟩
    exact Conv.keep [0,1,2] [] [2,3,4,6,14,15,16] rfl rfl (qx rfl rfl (qx rfl rfl (qx rfl rfl (qx rfl rfl (qx rfl rfl (qx rfl rfl (qx rfl rfl qy))))))) rfl rfl
   ·rw [hb14]; try simp only [hb14,bb] at gg8
    refine RD.q (.ptr 3 7) (RD.q (.bool x16.Leaked) (RD.q (.bool (!x16.Leaked)) (RD.q (.bool (!x16.Leaked)) (RD.m rfl ?_))))
    rcases qq (x16.Leaked) with hb15 | hb15
    ·rw [hb15]; try simp only [hb15,bb] at gg8
     refine RD.q (.ptr 3 0) (RD.q (.agg (zy.c x16.P)) (RD.q (.ptr 1 1) (RD.q (.int .u32 h1.Gate) ?_)))
     generalize hc34:F167 x16.P h1.Gate = c34 at gg8
     try dsimp only at gg8
     refine RD.callp (r:=.bool c34) rfl rfl rfl (f167_ok x16.P h1.Gate _ hc34) rfl rfl (RD.q (.bool c34) (RD.m rfl ?_))
     rcases qq (c34) with hb16 | hb16
     ·rw [hb16]; try simp only [hb16,bb] at gg8
      iterate 15 refine RD.skip rfl rfl ?_
      refine RD.q (.bool false) (RD.doneB [0,1,3,7,15,31,63,127,255,511,1023,511,2559,8191,16383,32767,65535,131071,262143,524287,1048575,2097151,524287,4718591,524287,29884415,63438847,130547711,264765439,536870911,1073741823,2147483647] (by kernel_rfl) (by kernel_rfl) (by kernel_rfl) (WK.condF rfl (WK.skip ?_)))
      refine WK.nil (QF.normal (hK13 _ ?_))
      refine WK.regx qv (GX.pure (v':=.int .i64 ((i16 + 1:Nat):Int)) rfl rfl rfl rfl (congrArg (PVal.int .i64) (wrap_up hlt8 ge8)) (GX.m rfl (GX.done ?_)))
      refine WK.nil (QF.normal ?_)
      refine ga8 _ (t0.L.length - (i16 + 1)) _ (by omega) ?_ ⟨i16 + 1,at6,(by omega),rfl,gg8,rfl⟩
      exact Conv.keep [0,1,2] [] [2,3,4,6,14,15,16] rfl rfl (qx rfl rfl (qx rfl rfl (qx rfl rfl (qx rfl rfl (qx rfl rfl (qx rfl rfl (qx rfl rfl qy))))))) rfl rfl
     ·rw [hb16]; try simp only [hb16,bb] at gg8
      refine RD.m rfl (RD.q (.bool (decide (at6 < 0))) (RD.m rfl ?_))
      rcases qq (decide (at6 < 0)) with hb17 | hb17
      ·rw [hb17]; try simp only [hb17,bb] at gg8
       refine RD.q (.ptr 3 0) (RD.q (.ptr 3 1) (RD.q (.int .i64 x16.P.N) (RD.q (.ptr 0 0) (RD.q (.ro 10 (t0.L.map qj.c)) (RD.m rfl ?_)))))
       rcases wy gg8 with ⟨_,gg8⟩ | ⟨x917,hx917,gg8⟩
       ·subst gg8
        first | replace hR:=wz hR | replace hR:=oexc_n hR
        cases hR
       try dsimp only at gg8
       obtain ⟨hx9170,hx917j,hx917l,hx917⟩:=kx hx917
       refine RD.idxT (c:=qj.c) (x:=x917) rfl rfl rfl hx9170 hx917 ?_
       refine RD.q (.rptr (qj.c x917)) ?_
       refine RD.q (.rptr [.int .i64 x917.P.N,.int .i64 x917.Proto,.int .i64 x917.Inst,.int .i64 x917.Dist,.int .i64 x917.Metric,.int .u32 x917.Tag,.bool x917.Leaked,.int .i64 x917.From,.ro 2 (x917.Hops.map THop.c)]) ?_
       refine RD.q (.int .i64 x917.P.N) ?_
       iterate 3 refine RD.q (.bool (decide (x917.P.N < x16.P.N))) ?_
       refine RD.doneB [0,1,3,7,15,31,63,127,255,511,1023,511,2559,8191,16383,32767,65535,131071,262143,524287,1048575,2097151,524287,4718591,524287,29884415,63438847,130547711,264765439,536870911,1073741823,2147483647] (by kernel_rfl) (by kernel_rfl) (by kernel_rfl) ?_
       rcases qq (decide (x917.P.N < x16.P.N)) with hb19 | hb19
       ·rw [hb19]; try simp only [hb19,bb] at gg8
        refine WK.condF rfl (WK.skip ?_)
        refine WK.nil (QF.normal (hK13 _ ?_))
        refine WK.regx qv (GX.pure (v':=.int .i64 ((i16 + 1:Nat):Int)) rfl rfl rfl rfl (congrArg (PVal.int .i64) (wrap_up hlt8 ge8)) (GX.m rfl (GX.done ?_)))
        refine WK.nil (QF.normal ?_)
        refine ga8 _ (t0.L.length - (i16 + 1)) _ (by omega) ?_ ⟨i16 + 1,at6,(by omega),rfl,gg8,rfl⟩
        exact Conv.keep [0,1,2] [] [2,3,4,6,14,15,16] rfl rfl (qx rfl rfl (qx rfl rfl (qx rfl rfl (qx rfl rfl (qx rfl rfl (qx rfl rfl (qx rfl rfl qy))))))) rfl rfl
       ·rw [hb19]; try simp only [hb19,bb] at gg8
        refine WK.condT rfl (WK.regx qv (GX.m rfl (GX.m rfl (GX.done ?_))))
        refine WK.nil (QF.normal (hK13 _ ?_))
        refine WK.regx qv (GX.pure (v':=.int .i64 ((i16 + 1:Nat):Int)) rfl rfl rfl rfl (congrArg (PVal.int .i64) (wrap_up hlt8 ge8)) (GX.m rfl (GX.done ?_)))
        refine WK.nil (QF.normal ?_)
        refine ga8 _ (t0.L.length - (i16 + 1)) _ (by omega) ?_ ⟨i16 + 1,(i16:Int),(by omega),rfl,gg8,rfl⟩
        exact Conv.keep [0,1,2] [] [2,3,4,6,14,15,16] rfl rfl (qx rfl rfl (qx rfl rfl (qx rfl rfl (qx rfl rfl (qx rfl rfl (qx rfl rfl (qx rfl rfl qy))))))) rfl rfl
      ·rw [hb17]; try simp only [hb17,bb] at gg8
       iterate 11 refine RD.skip rfl rfl ?_
       refine RD.q (.bool true) (RD.q (.bool true) (RD.doneB [0,1,3,7,15,31,63,127,255,511,1023,511,2559,8191,16383,32767,65535,131071,262143,524287,1048575,2097151,524287,4718591,524287,29884415,63438847,130547711,264765439,536870911,1073741823,2147483647] (by kernel_rfl) (by kernel_rfl) (by kernel_rfl) (WK.condT rfl (WK.regx qv (GX.m rfl (GX.m rfl (GX.done ?_)))))))
       refine WK.nil (QF.normal (hK13 _ ?_))
       refine WK.regx qv (GX.pure (v':=.int .i64 ((i16 + 1:Nat):Int)) rfl rfl rfl rfl (congrArg (PVal.int .i64) (wrap_up hlt8 ge8)) (GX.m rfl (GX.done ?_)))
       refine WK.nil (QF.normal ?_)
       refine ga8 _ (t0.L.length - (i16 + 1)) _ (by omega) ?_ ⟨i16 + 1,(i16:Int),(by omega),rfl,gg8,rfl⟩
       exact Conv.keep [0,1,2] [] [2,3,4,6,14,15,16] rfl rfl (qx rfl rfl (qx rfl rfl (qx rfl rfl (qx rfl rfl (qx rfl rfl (qx rfl rfl (qx rfl rfl qy))))))) rfl rfl
    ·rw [hb15]; try simp only [hb15,bb] at gg8
     iterate 5 refine RD.skip rfl rfl ?_
     refine RD.q (.bool false) (RD.m rfl ?_)
     iterate 15 refine RD.skip rfl rfl ?_
     refine RD.q (.bool false) (RD.doneB [0,1,3,7,15,31,63,127,255,511,1023,511,2559,8191,16383,32767,65535,131071,262143,524287,1048575,2097151,524287,4718591,524287,29884415,63438847,130547711,264765439,536870911,1073741823,2147483647] (by kernel_rfl) (by kernel_rfl) (by kernel_rfl) (WK.condF rfl (WK.skip ?_)))
     refine WK.nil (QF.normal (hK13 _ ?_))
     refine WK.regx qv (GX.pure (v':=.int .i64 ((i16 + 1:Nat):Int)) rfl rfl rfl rfl (congrArg (PVal.int .i64) (wrap_up hlt8 ge8)) (GX.m rfl (GX.done ?_)))
     refine WK.nil (QF.normal ?_)
     refine ga8 _ (t0.L.length - (i16 + 1)) _ (by omega) ?_ ⟨i16 + 1,at6,(by omega),rfl,gg8,rfl⟩
     exact Conv.keep [0,1,2] [] [2,3,4,6,14,15,16] rfl rfl (qx rfl rfl (qx rfl rfl (qx rfl rfl (qx rfl rfl (qx rfl rfl (qx rfl rfl (qx rfl rfl qy))))))) rfl rfl
 ·rw [hb1]; first | replace hR:=ky hb1 hR | (try simp only [hb1,bb] at hR)
  refine WK.condT rfl (WK.sr qv (GX.q (.agg (THop.c h1)) (GX.step0 (zj:=[(0,.box (qk.c t0)),(1,.box (THop.c h1)),(2,.box (THop.c h1))]) (zk:=3) rfl rfl rfl rfl rfl (GX.m rfl (GX.done (WK.ret ?_))))))
  obtain rfl:=Option.some.inj hR
  exact RetQ.fr [] (.inr rfl) rfl rfl rfl rfl
theorem f117_ok (t0:qk) (c1:qj) (R:qj × Bool) (hR:F117 t0 c1 = some R):FnOk Tryz.prog 117 [.agg (qk.c t0),.agg (qj.c c1)] [] 0 (.tup [.agg (qj.c R.1),.bool R.2]) [] 0:=by
 refine FnOk.wk i117 rfl rfl ?_
 unfold F117 at hR
 try dsimp only at hR
 change WK _ _ _ [ac117] _ ⟨[(0,.agg (qk.c t0)),(1,.agg (qj.c c1))],[],0⟩
 unfold ac117
 refine WK.sr qv (GX.step (v':=.ptr 0 0) (zj:=[(0,.box (qk.c t0))]) (zk:=1) rfl rfl rfl rfl rfl rfl rfl (GX.step (v':=.ptr 1 0) (zj:=[(0,.box (qk.c t0)),(1,.box (qj.c c1))]) (zk:=2) rfl rfl rfl rfl rfl rfl rfl (GX.step (v':=.ptr 2 0) (zj:=[(0,.box (qk.c t0)),(1,.box (qj.c c1)),(2,.box [.int .u32 0,.int .i64 0,.int .i64 0,.int .i64 0,.int .i64 0,.int .i64 0,.int .u32 0,.bool false,.int .i64 0,.nils])]) (zk:=3) rfl rfl rfl rfl rfl rfl rfl (GX.m rfl (GX.done (WK.seq (WK.sr qv (GX.q (.ptr 1 2) (GX.q (.int .i64 c1.Proto) (GX.q (.bool (!decide (c1.Proto = 1))) (GX.m rfl ?_)))))))))))
 rcases qq (decide (c1.Proto = 1)) with hb1 | hb1
 ·rw [hb1]; first | replace hR:=kz hb1 hR | (try simp only [hb1,bb] at hR)
  refine GX.skip rfl rfl (GX.skip rfl rfl (GX.q (.bool true) (GX.done (WK.condT rfl (WK.sr qv (GX.q (.agg (qj.c c1)) (GX.step0 (zj:=[(0,.box (qk.c t0)),(1,.box (qj.c c1)),(2,.box (qj.c c1))]) (zk:=3) rfl rfl rfl rfl rfl (GX.m rfl (GX.done (WK.ret ?_))))))))))
  obtain rfl:=Option.some.inj hR
  exact RetQ.fr [] (.inr rfl) rfl rfl rfl rfl
 ·rw [hb1]; first | replace hR:=ky hb1 hR | (try simp only [hb1,bb] at hR)
  refine GX.q (.ptr 1 7) (GX.q (.bool c1.Leaked) (GX.q (.bool c1.Leaked) (GX.done ?_)))
  rcases qq (c1.Leaked) with hb2 | hb2
  ·rw [hb2]; first | replace hR:=kz hb2 hR | (try simp only [hb2,bb] at hR)
   refine WK.condF rfl (WK.skip (WK.sr qv (GX.m rfl (GX.done (WK.seq (WK.sr qv (GX.q (.ptr 1 9) (GX.q (.ro 2 (c1.Hops.map THop.c)) (GX.pure (v':=.int .i64 (c1.Hops.length:Int)) rfl rfl rfl rfl (ww _ _) (GX.m rfl (GX.done (WK.adopt (t:=6) (sz:=2) (ty:=81) (zj:=[(0,.box (qk.c t0)),(1,.box (qj.c c1)),(2,.box [.int .u32 0,.int .i64 0,.int .i64 0,.int .i64 0,.int .i64 0,.int .i64 0,.int .u32 0,.bool false,.int .i64 0,.nils]),(3,.row 2 81 (([]:List THop).map THop.c))]) rfl (by decide) (by simp) rfl ?_))))))))))))
   refine WK.len (t:=20) rfl (by simp) (fun ge11=>?_)
   rw [List.length_map] at ge11
   generalize gi11:F117l1 t0 ([]:List THop) c1.Hops = gh11 at hR
   refine WK.forK (fun k s=>∃ (i22:Nat) (hops6:List THop),i22 ≤ c1.Hops.length ∧ k = c1.Hops.length - i22 ∧ F117l1 t0 hops6 (c1.Hops.drop i22) = gh11 ∧ s = ⟨[(2,.ptr 0 0),(3,.ptr 1 0),(4,.ptr 2 0),(6,.own 3 2 0 hops6.length),(20,.ro 2 (c1.Hops.map THop.c)),(21,.int .i64 (c1.Hops.length:Int)),(22,.int .i64 (i22:Int))],[(0,.box (qk.c t0)),(1,.box (qj.c c1)),(2,.box [.int .u32 0,.int .i64 0,.int .i64 0,.int .i64 0,.int .i64 0,.int .i64 0,.int .u32 0,.bool false,.int .i64 0,.nils]),(3,.row 2 81 (hops6.map THop.c))],4⟩) c1.Hops.length (by refine ⟨_,?_,0,([]:List THop),(by omega),rfl,gi11,rfl⟩; exact Conv.keep [0,1,2,3] [] [2,3,4,6,20,21,22] rfl rfl (qx rfl rfl (qx rfl rfl (qx rfl rfl (qx rfl rfl (qx rfl rfl (qx rfl rfl (qx rfl rfl qy))))))) rfl rfl) ?_
   rintro _ _ ⟨i22,hops6,gj11,rfl,gg11,rfl⟩ gb11 gd11 gk11 ga11 gc11 gf11
   refine WK.sr qv (GX.q (.bool (decide ((i22:Int) < (c1.Hops.length:Int)))) (GX.done (WK.seq ?_)))
   rcases qq (decide ((i22:Int) < (c1.Hops.length:Int))) with hb12 | hb12
   ·rw [hb12]
    rw [drop_end hb12,F117l1] at gg11
    refine WK.condF rfl (WK.exit ?_)
    refine QF.exit (gc11 _ ?_)
    subst gg11
    replace hR:=obind_s hR; try dsimp only at hR
    refine WK.seq (WK.sr qv (GX.m rfl (GX.q (.int .i64 (hops6.length:Int)) (GX.q (.bool (decide ((hops6.length:Int) = 0))) (GX.done ?_)))))
    rcases qq (decide ((hops6.length:Int) = 0)) with hb13 | hb13
    ·rw [hb13]; first | replace hR:=kz hb13 hR | (try simp only [hb13,bb] at hR)
     refine WK.condF rfl (WK.skip (WK.sr qv (GX.m rfl (GX.q (.ptr 1 9) (GX.step0 (zj:=[(0,.box (qk.c t0)),(1,.box [.int .u32 c1.P.A,.int .i64 c1.P.N,.int .i64 c1.Proto,.int .i64 c1.Inst,.int .i64 c1.Dist,.int .i64 c1.Metric,.int .u32 c1.Tag,.bool c1.Leaked,.int .i64 c1.From,.own 3 2 0 hops6.length]),(2,.box [.int .u32 0,.int .i64 0,.int .i64 0,.int .i64 0,.int .i64 0,.int .i64 0,.int .u32 0,.bool false,.int .i64 0,.nils]),(3,.row 2 81 (hops6.map THop.c))]) (zk:=4) rfl rfl rfl rfl rfl (GX.done (WK.sr qv (GX.q (.agg [.int .u32 c1.P.A,.int .i64 c1.P.N,.int .i64 c1.Proto,.int .i64 c1.Inst,.int .i64 c1.Dist,.int .i64 c1.Metric,.int .u32 c1.Tag,.bool c1.Leaked,.int .i64 c1.From,.own 3 2 0 hops6.length]) (GX.step0 (zj:=[(0,.box (qk.c t0)),(1,.box [.int .u32 c1.P.A,.int .i64 c1.P.N,.int .i64 c1.Proto,.int .i64 c1.Inst,.int .i64 c1.Dist,.int .i64 c1.Metric,.int .u32 c1.Tag,.bool c1.Leaked,.int .i64 c1.From,.own 3 2 0 hops6.length]),(2,.box [.int .u32 c1.P.A,.int .i64 c1.P.N,.int .i64 c1.Proto,.int .i64 c1.Inst,.int .i64 c1.Dist,.int .i64 c1.Metric,.int .u32 c1.Tag,.bool c1.Leaked,.int .i64 c1.From,.own 3 2 0 hops6.length]),(3,.row 2 81 (hops6.map THop.c))]) (zk:=4) rfl rfl rfl rfl rfl (GX.m rfl (GX.done (WK.ret ?_))))))))))))
     obtain rfl:=Option.some.inj hR
     exact RetQ.fr [3] (.inr rfl) rfl rfl (qz (viewP_agg (qz rfl (qz rfl (qz rfl (qz rfl (qz rfl (qz rfl (qz rfl (qz rfl (qz rfl (qz (view_rowT rfl rfl) qw))))))))))) (qz rfl qw)) rfl
    ·rw [hb13]; first | replace hR:=ky hb13 hR | (try simp only [hb13,bb] at hR)
     refine WK.condT rfl (WK.sr qv (GX.q (.agg [.int .u32 0,.int .i64 0,.int .i64 0,.int .i64 0,.int .i64 0,.int .i64 0,.int .u32 0,.bool false,.int .i64 0,.nils]) (GX.step0 (zj:=[(0,.box (qk.c t0)),(1,.box (qj.c c1)),(2,.box [.int .u32 0,.int .i64 0,.int .i64 0,.int .i64 0,.int .i64 0,.int .i64 0,.int .u32 0,.bool false,.int .i64 0,.nils]),(3,.row 2 81 (hops6.map THop.c))]) (zk:=4) rfl rfl rfl rfl rfl (GX.m rfl (GX.done (WK.ret ?_))))))
     obtain rfl:=Option.some.inj hR
     exact RetQ.frw [] (.inr rfl) rfl rfl rfl (.tup (.cons (.agg (.cons .refl (.cons .refl (.cons .refl (.cons .refl (.cons .refl (.cons .refl (.cons .refl (.cons .refl (.cons .refl (.cons .nil .refl))))))))))) .refl))
   ·rw [hb12]
    obtain ⟨x22,hx11,hd11,hlt11⟩:=drop_more hb12
    rw [hd11,F117l1] at gg11
    refine WK.condT rfl (WK.skip (WK.seq ?_))
    refine WK.blockK (fun _ hK14=>?_)
    refine WK.sr qv (GX.idxT (c:=THop.c) (x:=x22) rfl rfl rfl (Int.natCast_nonneg _) hx11 (GX.q (.agg (THop.c x22)) (GX.step (v':=.ptr 4 0) (zj:=[(0,.box (qk.c t0)),(1,.box (qj.c c1)),(2,.box [.int .u32 0,.int .i64 0,.int .i64 0,.int .i64 0,.int .i64 0,.int .i64 0,.int .u32 0,.bool false,.int .i64 0,.nils]),(3,.row 2 81 (hops6.map THop.c)),(4,.box [.int .i64 0,.int .u32 0])]) (zk:=5) rfl rfl rfl rfl rfl rfl rfl (GX.step0 (zj:=[(0,.box (qk.c t0)),(1,.box (qj.c c1)),(2,.box [.int .u32 0,.int .i64 0,.int .i64 0,.int .i64 0,.int .i64 0,.int .i64 0,.int .u32 0,.bool false,.int .i64 0,.nils]),(3,.row 2 81 (hops6.map THop.c)),(4,.box (THop.c x22))]) (zk:=5) rfl rfl rfl rfl rfl (GX.done (WK.sr qv (GX.q (.agg (qk.c t0)) (GX.q (.agg (THop.c x22)) ?_))))))))
    rcases wy gg11 with ⟨_,gg11⟩ | ⟨c29,hc29,gg11⟩
    ·subst gg11
     first | replace hR:=wz hR | replace hR:=oexc_n hR
     cases hR
    try dsimp only at gg11
    refine GX.callp (r:=.tup [.agg (THop.c c29.1),.bool c29.2]) rfl rfl rfl (f148_ok t0 x22 _ hc29) rfl rfl (GX.m rfl (GX.q (.agg (THop.c c29.1)) (GX.q (.bool c29.2) (GX.step (v':=.ptr 5 0) (zj:=[(0,.box (qk.c t0)),(1,.box (qj.c c1)),(2,.box [.int .u32 0,.int .i64 0,.int .i64 0,.int .i64 0,.int .i64 0,.int .i64 0,.int .u32 0,.bool false,.int .i64 0,.nils]),(3,.row 2 81 (hops6.map THop.c)),(4,.box (THop.c x22)),(5,.box [.int .i64 0,.int .u32 0])]) (zk:=6) rfl rfl rfl rfl rfl rfl rfl (GX.step0 (zj:=[(0,.box (qk.c t0)),(1,.box (qj.c c1)),(2,.box [.int .u32 0,.int .i64 0,.int .i64 0,.int .i64 0,.int .i64 0,.int .i64 0,.int .u32 0,.bool false,.int .i64 0,.nils]),(3,.row 2 81 (hops6.map THop.c)),(4,.box (THop.c x22)),(5,.box (THop.c c29.1))]) (zk:=6) rfl rfl rfl rfl rfl (GX.m rfl (GX.done (WK.sr qv (GX.m rfl (GX.done ?_))))))))))
    rcases qq (c29.2) with hb15 | hb15
    ·rw [hb15]; try simp only [hb15,bb] at gg11
     refine WK.condF rfl (WK.skip ?_)
     refine WK.nil (QF.normal (hK14 _ ?_))
     refine WK.regx qv (GX.pure (v':=.int .i64 ((i22 + 1:Nat):Int)) rfl rfl rfl rfl (congrArg (PVal.int .i64) (wrap_up hlt11 ge11)) (GX.m rfl (GX.done ?_)))
     refine WK.nil (QF.normal ?_)
     refine ga11 _ (c1.Hops.length - (i22 + 1)) _ (by omega) ?_ ⟨i22 + 1,hops6,(by omega),rfl,gg11,rfl⟩
     exact Conv.keep [0,1,2,3] [] [2,3,4,6,20,21,22] rfl rfl (qx rfl rfl (qx rfl rfl (qx rfl rfl (qx rfl rfl (qx rfl rfl (qx rfl rfl (qx rfl rfl qy))))))) rfl rfl
    ·rw [hb15]; try simp only [hb15,bb] at gg11
     refine WK.condT rfl (WK.regx qv (GX.m rfl (GX.q (.agg (THop.c c29.1)) (GX.step (v':=.own 6 2 0 (([c29.1]:List THop)).length) (zj:=[(0,.box (qk.c t0)),(1,.box (qj.c c1)),(2,.box [.int .u32 0,.int .i64 0,.int .i64 0,.int .i64 0,.int .i64 0,.int .i64 0,.int .u32 0,.bool false,.int .i64 0,.nils]),(3,.row 2 81 (hops6.map THop.c)),(4,.box (THop.c x22)),(5,.box (THop.c c29.1)),(6,.row 2 81 (([c29.1]:List THop).map THop.c))]) (zk:=7) rfl rfl rfl rfl rfl rfl rfl ?_))))
     rcases qq (decide (hops6.length < 1099511627776)) with hg16 | hg16
     ·replace gg11:=kz hg16 gg11
      subst gg11
      first | replace hR:=wz hR | replace hR:=oexc_n hR
      cases hR
     replace gg11:=ky hg16 gg11; try dsimp only at gg11
     have hg16_:=of_decide_eq_true hg16
     refine GX.appT (c:=THop.c) (L:=hops6) (X:=([c29.1]:List THop)) (zj:=[(0,.box (qk.c t0)),(1,.box (qj.c c1)),(2,.box [.int .u32 0,.int .i64 0,.int .i64 0,.int .i64 0,.int .i64 0,.int .i64 0,.int .u32 0,.bool false,.int .i64 0,.nils]),(4,.box (THop.c x22)),(5,.box (THop.c c29.1)),(6,.row 2 81 (([c29.1]:List THop).map THop.c)),(7,.row 2 81 ((hops6 ++ ([c29.1]:List THop)).map THop.c))]) (zk:=8) rfl rfl rfl rfl (elems_own rfl) (by ((try simp only [List.length_append,List.length_cons,List.length_nil,List.length_map,decide_eq_true_eq,decide_eq_false_iff_not] at *) <;> omega)) (by ((try simp only [List.length_append,List.length_cons,List.length_nil,List.length_map,decide_eq_true_eq,decide_eq_false_iff_not] at *) <;> omega)) rfl rfl rfl rfl (GX.m rfl (GX.done ?_))
     refine WK.nil (QF.normal (hK14 _ ?_))
     refine WK.regx qv (GX.pure (v':=.int .i64 ((i22 + 1:Nat):Int)) rfl rfl rfl rfl (congrArg (PVal.int .i64) (wrap_up hlt11 ge11)) (GX.m rfl (GX.done ?_)))
     refine WK.nil (QF.normal ?_)
     refine ga11 _ (c1.Hops.length - (i22 + 1)) _ (by omega) ?_ ⟨i22 + 1,(hops6 ++ ([c29.1]:List THop)),(by omega),rfl,gg11,rfl⟩
     exact Conv.keep [0,1,2,7] [] [2,3,4,6,20,21,22] rfl rfl (qx rfl rfl (qx rfl rfl (qx rfl rfl (qx rfl rfl (qx rfl rfl (qx rfl rfl (qx rfl rfl qy))))))) rfl rfl
  ·rw [hb2]; first | replace hR:=ky hb2 hR | (try simp only [hb2,bb] at hR)
   refine WK.condT rfl (WK.sr qv (GX.q (.agg (qj.c c1)) (GX.step0 (zj:=[(0,.box (qk.c t0)),(1,.box (qj.c c1)),(2,.box (qj.c c1))]) (zk:=3) rfl rfl rfl rfl rfl (GX.m rfl (GX.done (WK.ret ?_))))))
   obtain rfl:=Option.some.inj hR
   exact RetQ.fr [] (.inr rfl) rfl rfl rfl rfl
theorem f118_ok (a0:qj) (b1:qj) (R:Int) (hR:F118 a0 b1 = R):FnOk Tryz.prog 118 [.agg (qj.c a0),.agg (qj.c b1)] [] 0 (.int .i64 R) [] 0:=by
 refine FnOk.wk i118 rfl rfl ?_
 unfold F118 at hR
 change WK _ _ _ [ac118] _ ⟨[(0,.agg (qj.c a0)),(1,.agg (qj.c b1))],[],0⟩
 unfold ac118
 refine WK.sr qv (GX.step (v':=.ptr 0 0) (zj:=[(0,.box (qj.c a0))]) (zk:=1) rfl rfl rfl rfl rfl rfl rfl (GX.step (v':=.ptr 1 0) (zj:=[(0,.box (qj.c a0)),(1,.box (qj.c b1))]) (zk:=2) rfl rfl rfl rfl rfl rfl rfl (GX.m rfl (GX.done (WK.seq (WK.drawn qv (RD.q (.ptr 0 4) (RD.q (.int .i64 a0.Dist) (RD.q (.ptr 1 4) (RD.q (.int .i64 b1.Dist) ?_))))))))))
 generalize hc9:F127 a0.Dist b1.Dist = c9 at hR
 try dsimp only at hR
 refine RD.callp (r:=.int .i64 c9) rfl rfl rfl (f127_ok a0.Dist b1.Dist _ hc9) rfl rfl (RD.q (.agg (qj.c a0)) ?_)
 generalize hc11:F128 a0 = c11 at hR
 try dsimp only at hR
 refine RD.callp (r:=.int .i64 c11) rfl rfl rfl (f128_ok a0 _ hc11) rfl rfl (RD.q (.agg (qj.c b1)) ?_)
 generalize hc13:F128 b1 = c13 at hR
 try dsimp only at hR
 refine RD.callp (r:=.int .i64 c13) rfl rfl rfl (f128_ok b1 _ hc13) rfl rfl (RD.q (.int .i64 (IntKind.i64.wrap (c11 - c13))) (RD.q (.ptr 0 2) (RD.q (.int .i64 a0.Proto) (RD.q (.ptr 1 2) (RD.q (.int .i64 b1.Proto) ?_)))))
 generalize hc19:F127 a0.Proto b1.Proto = c19 at hR
 try dsimp only at hR
 refine RD.callp (r:=.int .i64 c19) rfl rfl rfl (f127_ok a0.Proto b1.Proto _ hc19) rfl rfl (RD.q (.ptr 0 5) (RD.q (.int .i64 a0.Metric) (RD.q (.ptr 1 5) (RD.q (.int .i64 b1.Metric) ?_))))
 generalize hc24:F127 a0.Metric b1.Metric = c24 at hR
 try dsimp only at hR
 refine RD.callp (r:=.int .i64 c24) rfl rfl rfl (f127_ok a0.Metric b1.Metric _ hc24) rfl rfl (RD.q (.ptr 0 3) (RD.q (.int .i64 a0.Inst) (RD.q (.ptr 1 3) (RD.q (.int .i64 b1.Inst) ?_))))
 generalize hc29:F127 a0.Inst b1.Inst = c29 at hR
 try dsimp only at hR
 refine RD.callp (r:=.int .i64 c29) rfl rfl rfl (f127_ok a0.Inst b1.Inst _ hc29) rfl rfl (RD.q (.ptr 0 8) (RD.q (.int .i64 a0.From) (RD.q (.ptr 1 8) (RD.q (.int .i64 b1.From) ?_))))
 generalize hc34:F127 a0.From b1.From = c34 at hR
 try dsimp only at hR
 refine RD.callp (r:=.int .i64 c34) rfl rfl rfl (f127_ok a0.From b1.From _ hc34) rfl rfl (RD.step (v':=.own 2 1 0 (([c9,IntKind.i64.wrap (c11 - c13),c19,c24,c29,c34]:List Int)).length) (zj:=[(0,.box (qj.c a0)),(1,.box (qj.c b1)),(2,.row 1 3 (([c9,IntKind.i64.wrap (c11 - c13),c19,c24,c29,c34]:List Int).map c_i64))]) (zk:=3) rfl rfl rfl rfl rfl rfl rfl ?_)
 generalize hc36:F125 ([c9,IntKind.i64.wrap (c11 - c13),c19,c24,c29,c34]:List Int) = c36 at hR
 try dsimp only at hR
 refine RD.callbp (r:=.int .i64 c36) [2] rfl rfl rfl (qz (view_rowT rfl rfl) qw) (f125_ok ([c9,IntKind.i64.wrap (c11 - c13),c19,c24,c29,c34]:List Int) _ hc36) rfl rfl (RD.m rfl (RD.doneB [0,1,0,4,15,0,63,0,255,511,0,1024,0,4096,15871,0,32768,0,131072,523775,0,1048576,0,4194304,16776703,0,33554432,0,134217728,536870399,1073741823,2147483647,4294967295] (by kernel_rfl) (by kernel_rfl) (by kernel_rfl) (WK.ret ?_)))
 subst hR
 exact RetQ.fr [] (.inr rfl) rfl rfl rfl rfl
theorem f87_ok (a0:qj) (b1:qj) (R:Bool) (hR:F87 a0 b1 = R):FnOk Tryz.prog 87 [.agg (qj.c a0),.agg (qj.c b1)] [] 0 (.bool R) [] 0:=by
 refine FnOk.wk i87 rfl rfl ?_
 unfold F87 at hR
 change WK _ _ _ [ac87] _ ⟨[(0,.agg (qj.c a0)),(1,.agg (qj.c b1))],[],0⟩
 unfold ac87
 refine WK.sr qv (GX.step (v':=.ptr 0 0) (zj:=[(0,.box (qj.c a0))]) (zk:=1) rfl rfl rfl rfl rfl rfl rfl (GX.step (v':=.ptr 1 0) (zj:=[(0,.box (qj.c a0)),(1,.box (qj.c b1))]) (zk:=2) rfl rfl rfl rfl rfl rfl rfl (GX.m rfl (GX.done (WK.sr qv (GX.q (.agg (qj.c a0)) (GX.q (.agg (qj.c b1)) ?_)))))))
 generalize hc7:F118 a0 b1 = c7 at hR
 try dsimp only at hR
 refine GX.callp (r:=.int .i64 c7) rfl rfl rfl (f118_ok a0 b1 _ hc7) rfl rfl (GX.q (.bool (decide (c7 < 0))) (GX.m rfl (GX.done (WK.ret ?_))))
 subst hR
 exact RetQ.fr [] (.inr rfl) rfl rfl rfl rfl
theorem f44_ok (t0:qk) (R:List qj) (hR:allO t0 = some R):FnOk Tryz.prog 44 [.agg (qk.c t0)] [] 0 (.ro 10 (R.map qj.c)) [] 0:=f44_of f117_ok f87_ok t0 R hR
theorem f142_ok (c0:qj) (a1:zy) (R:Bool) (hR:F142 c0 a1 = R):FnOk Tryz.prog 142 [.agg (qj.c c0),.rptr (zy.c a1)] [] 0 (.bool R) [] 0:=by
 refine FnOk.wk i142 rfl rfl ?_
 unfold F142 at hR
 change WK _ _ _ [ac142] _ ⟨[(0,.agg (qj.c c0)),(1,.rptr (zy.c a1))],[],0⟩
 unfold ac142
 refine WK.sr qv (GX.step (v':=.ptr 0 0) (zj:=[(0,.box (qj.c c0))]) (zk:=1) rfl rfl rfl rfl rfl rfl rfl (GX.m rfl (GX.done (WK.sr qv (GX.q (.ptr 0 0) (GX.q (.agg (zy.c c0.P)) (GX.q (.agg (zy.c a1)) (GX.q (.bool (decide (c0.P.A = a1.A) && (decide (c0.P.N = a1.N) && true))) (GX.m rfl (GX.done (WK.ret ?_)))))))))))
 subst hR
 exact RetQ.fr [] (.inr rfl) rfl rfl rfl rfl
theorem f107_ok (t0:qk) (p1:zy) (R:qj × Bool) (hR:F107 t0 p1 = some R):FnOk Tryz.prog 107 [.agg (qk.c t0),.agg (zy.c p1)] [] 0 (.tup [.agg (qj.c R.1),.bool R.2]) [] 0:=by
 refine FnOk.wk i107 rfl rfl ?_
 unfold F107 at hR
 try dsimp only at hR
 change WK _ _ _ [ac107] _ ⟨[(0,.agg (qk.c t0)),(1,.agg (zy.c p1))],[],0⟩
 unfold ac107
 refine WK.sr qv (GX.step (v':=.ptr 0 0) (zj:=[(0,.box (qk.c t0))]) (zk:=1) rfl rfl rfl rfl rfl rfl rfl (GX.step (v':=.ptr 1 0) (zj:=[(0,.box (qk.c t0)),(1,.box (zy.c p1))]) (zk:=2) rfl rfl rfl rfl rfl rfl rfl (GX.step (v':=.ptr 2 0) (zj:=[(0,.box (qk.c t0)),(1,.box (zy.c p1)),(2,.box [.int .u32 0,.int .i64 0,.int .i64 0,.int .i64 0,.int .i64 0,.int .i64 0,.int .u32 0,.bool false,.int .i64 0,.nils])]) (zk:=3) rfl rfl rfl rfl rfl rfl rfl (GX.m rfl (GX.done (WK.sr qv (GX.q (.agg (qk.c t0)) ?_)))))))
 obtain ⟨c9,hc9,hR⟩:=wx hR; try dsimp only at hR
 try dsimp only at hR
 refine GX.callp (r:=.ro 10 (c9.map qj.c)) rfl rfl rfl (f44_ok t0 _ hc9) rfl rfl (GX.m rfl (GX.done (WK.sr qv (GX.m rfl (GX.q (.fn 142 [] [.ptr 1 0]) ?_)))))
 generalize hc12:F115 c9 (fun y0=>F142 y0 p1) = c12 at hR
 try dsimp only at hR
 refine GX.callbp (r:=.int .i64 c12) [1] rfl rfl rfl rfl (f115_ok c9 142 [] [.rptr (zy.c p1)] (fun y0=>F142 y0 p1) ⟨rfl,rfl⟩ (fun y0 _ hr=>f142_ok y0 p1 _ hr) _ hc12) rfl rfl (GX.m rfl (GX.done (WK.seq (WK.sr qv (GX.m rfl (GX.q (.bool (decide (c12 < 0))) (GX.done ?_)))))))
 rcases qq (decide (c12 < 0)) with hb1 | hb1
 ·rw [hb1]; first | replace hR:=kz hb1 hR | (try simp only [hb1,bb] at hR)
  refine WK.condF rfl (WK.skip (WK.sr qv (GX.m rfl (GX.m rfl ?_))))
  obtain ⟨x901,hx901,hR⟩:=wx hR; try dsimp only at hR
  obtain ⟨hx9010,hx901j,hx901l,hx901⟩:=kx hx901
  refine GX.idxT (c:=qj.c) (x:=x901) rfl rfl rfl hx9010 hx901 (GX.q (.agg (qj.c x901)) (GX.step0 (zj:=[(0,.box (qk.c t0)),(1,.box (zy.c p1)),(2,.box (qj.c x901))]) (zk:=3) rfl rfl rfl rfl rfl (GX.m rfl (GX.done (WK.ret ?_)))))
  obtain rfl:=Option.some.inj hR
  exact RetQ.fr [] (.inr rfl) rfl rfl rfl rfl
 ·rw [hb1]; first | replace hR:=ky hb1 hR | (try simp only [hb1,bb] at hR)
  refine WK.condT rfl (WK.sr qv (GX.q (.agg [.int .u32 0,.int .i64 0,.int .i64 0,.int .i64 0,.int .i64 0,.int .i64 0,.int .u32 0,.bool false,.int .i64 0,.nils]) (GX.step0 (zj:=[(0,.box (qk.c t0)),(1,.box (zy.c p1)),(2,.box [.int .u32 0,.int .i64 0,.int .i64 0,.int .i64 0,.int .i64 0,.int .i64 0,.int .u32 0,.bool false,.int .i64 0,.nils])]) (zk:=3) rfl rfl rfl rfl rfl (GX.m rfl (GX.done (WK.ret ?_))))))
  obtain rfl:=Option.some.inj hR
  exact RetQ.frw [] (.inr rfl) rfl rfl rfl (.tup (.cons (.agg (.cons .refl (.cons .refl (.cons .refl (.cons .refl (.cons .refl (.cons .refl (.cons .refl (.cons .refl (.cons .refl (.cons .nil .refl))))))))))) .refl))
theorem f143_ok (x0:List qj) (target1:zy) (gcmp2:FuncId) (gcmp2f gcmp2c:List PVal) (hcmp2:qj → zy → Int) (gcmp2k:PVal.closed.go gcmp2f = true ∧ PVal.closed.go gcmp2c = true) (gcmp2o : ∀ (y0:qj) (y1:zy) (R:Int),hcmp2 y0 y1 = R → FnOk Tryz.prog gcmp2 (gcmp2f ++ [.agg (qj.c y0),.agg (zy.c y1)] ++ gcmp2c) [] 0 (.int .i64 R) [] 0) (R:Int × Bool) (hR:F143 x0 target1 hcmp2 = some R):FnOk Tryz.prog 143 [.ro 10 (x0.map qj.c),.agg (zy.c target1),.fn gcmp2 gcmp2f gcmp2c] [] 0 (.tup [.int .i64 R.1,.bool R.2]) [] 0:=by
 refine FnOk.wk i143 rfl rfl ?_
 unfold F143 at hR
 try dsimp only at hR
 change WK _ _ _ [ac143] _ ⟨[(0,.ro 10 (x0.map qj.c)),(1,.agg (zy.c target1)),(2,.fn gcmp2 gcmp2f gcmp2c)],[],0⟩
 unfold ac143
 refine WK.sr qv (GX.step (v':=.ptr 0 0) (zj:=[(0,.box (zy.c target1))]) (zk:=1) rfl rfl rfl rfl rfl rfl rfl (GX.m rfl (GX.m rfl (GX.done (WK.sr qv (GX.m rfl (GX.pure (v':=.int .i64 (x0.length:Int)) rfl rfl rfl rfl (ww _ _) (GX.m rfl (GX.done (WK.sr qv (GX.m rfl (GX.m rfl (GX.m rfl ?_)))))))))))))
 refine GX.done (WK.seq ?_)
 refine WK.len (t:=0) rfl (by simp) (fun hln0_13=>?_)
 rw [List.length_map] at hln0_13
 generalize gi13:F143l1 x0 target1 hcmp2 100 0 (x0.length:Int) = gh13 at hR
 refine WK.forK (fun k s=>∃ (i9:Int) (j10:Int),F143l1 x0 target1 hcmp2 k i9 j10 = gh13 ∧ s = ⟨[(0,.ro 10 (x0.map qj.c)),(2,.fn gcmp2 gcmp2f gcmp2c),(4,.ptr 0 0),(8,.int .i64 (x0.length:Int)),(9,.int .i64 i9),(10,.int .i64 j10)],[(0,.box (zy.c target1))],1⟩) 100 (by refine ⟨_,?_,0,(x0.length:Int),gi13,rfl⟩; exact Conv.keep [0] [] [0,2,4,8,9,10] rfl rfl (qx rfl rfl (qx rfl (viewP_fnc gcmp2k) (qx rfl rfl (qx rfl rfl (qx rfl rfl (qx rfl rfl qy)))))) rfl rfl) ?_
 rintro k13 _ ⟨i9,j10,gg13,rfl⟩ gb13 gd13 gk13 ga13 gc13 gf13
 rcases k13 with _ | f13
 ·unfold F143l1 at gg13
  subst gg13
  first | replace hR:=wz hR | replace hR:=oexc_n hR
  cases hR
 unfold F143l1 at gg13; try dsimp only at gg13
 refine WK.seq (WK.sr qv (GX.m rfl (GX.m rfl (GX.q (.bool (decide (i9 < j10))) (GX.done ?_)))))
 rcases qq (decide (i9 < j10)) with hb14 | hb14
 ·rw [hb14]; try simp only [hb14,bb] at gg13
  refine WK.condF rfl (WK.exit ?_)
  refine QF.exit (gc13 _ ?_)
  subst gg13
  replace hR:=obind_s hR; try dsimp only at hR
  refine WK.seq (WK.drawn qv (RD.m rfl (RD.m rfl (RD.m rfl (RD.q (.bool (decide (i9 < (x0.length:Int)))) (RD.m rfl ?_))))))
  rcases qq (decide (i9 < (x0.length:Int))) with hb15 | hb15
  ·rw [hb15]; first | replace hR:=kz hb15 hR | (try simp only [hb15,bb] at hR)
   iterate 8 refine RD.skip rfl rfl ?_
   refine RD.q (.bool false) (RD.m rfl (RD.m rfl (RD.done rfl (WK.ret ?_))))
   obtain rfl:=Option.some.inj hR
   exact RetQ.fr [] (.inr rfl) rfl rfl rfl rfl
  ·rw [hb15]; first | replace hR:=ky hb15 hR | (try simp only [hb15,bb] at hR)
   iterate 3 refine RD.m rfl ?_
   obtain ⟨x915,hx915,hR⟩:=wx hR; try dsimp only at hR
   obtain ⟨hx9150,hx915j,hx915l,hx915⟩:=kx hx915
   refine RD.idxT (c:=qj.c) (x:=x915) rfl rfl rfl hx9150 hx915 (RD.q (.agg (qj.c x915)) (RD.q (.agg (zy.c target1)) ?_))
   generalize hc46:hcmp2 x915 target1 = c46 at hR
   try dsimp only at hR
   refine RD.callvp (r:=.int .i64 c46) rfl rfl rfl (gcmp2o x915 target1 _ hc46) (closed3 gcmp2k.1 rfl gcmp2k.2) rfl (RD.q (.bool (decide (c46 = 0))) (RD.q (.bool (decide (c46 = 0))) (RD.m rfl (RD.m rfl (RD.done rfl (WK.ret ?_))))))
   obtain rfl:=Option.some.inj hR
   exact RetQ.fr [] (.inr rfl) rfl rfl rfl rfl
 ·rw [hb14]; try simp only [hb14,bb] at gg13
  refine WK.condT rfl (WK.skip ?_)
  refine WK.blockK (fun _ hK17=>?_)
  refine WK.sr qv (GX.m rfl (GX.m rfl (GX.q (.int .i64 (IntKind.i64.wrap (i9 + j10))) (GX.q (.int .u64 (IntKind.u64.wrap (IntKind.i64.wrap (i9 + j10)))) (GX.q (.int .u64 (Int.fdiv (IntKind.u64.wrap (IntKind.i64.wrap (i9 + j10))) (2 ^ 1))) (GX.q (.int .i64 (IntKind.i64.wrap (Int.fdiv (IntKind.u64.wrap (IntKind.i64.wrap (i9 + j10))) (2 ^ 1)))) (GX.m rfl (GX.done (WK.seq (WK.drawn qv (RD.m rfl (RD.m rfl (RD.m rfl ?_)))))))))))))
  rcases wy gg13 with ⟨_,gg13⟩ | ⟨x917,hx917,gg13⟩
  ·subst gg13
   first | replace hR:=wz hR | replace hR:=oexc_n hR
   cases hR
  try dsimp only at gg13
  obtain ⟨hx9170,hx917j,hx917l,hx917⟩:=kx hx917
  refine RD.idxT (c:=qj.c) (x:=x917) rfl rfl rfl hx9170 hx917 (RD.q (.agg (qj.c x917)) (RD.q (.agg (zy.c target1)) ?_))
  generalize hc30:hcmp2 x917 target1 = c30 at gg13
  try dsimp only at gg13
  refine RD.callvp (r:=.int .i64 c30) rfl rfl rfl (gcmp2o x917 target1 _ hc30) (closed3 gcmp2k.1 rfl gcmp2k.2) rfl (RD.q (.bool (decide (c30 < 0))) (RD.done rfl ?_))
  rcases qq (decide (c30 < 0)) with hb19 | hb19
  ·rw [hb19]; try simp only [hb19,bb] at gg13
   refine WK.condF rfl (WK.regx qv (GX.m rfl (GX.m rfl (GX.done ?_))))
   refine WK.nil (QF.normal (hK17 _ ?_))
   refine WK.nil (QF.normal ?_)
   refine ga13 _ f13 _ (Nat.lt_succ_self _) ?_ ⟨i9,(IntKind.i64.wrap (Int.fdiv (IntKind.u64.wrap (IntKind.i64.wrap (i9 + j10))) (2 ^ 1))),gg13,rfl⟩
   exact Conv.keep [0] [] [0,2,4,8,9,10] rfl rfl (qx rfl rfl (qx rfl (viewP_fnc gcmp2k) (qx rfl rfl (qx rfl rfl (qx rfl rfl (qx rfl rfl qy)))))) rfl rfl
  ·rw [hb19]; try simp only [hb19,bb] at gg13
   refine WK.condT rfl (WK.regx qv (GX.m rfl (GX.q (.int .i64 (IntKind.i64.wrap ((IntKind.i64.wrap (Int.fdiv (IntKind.u64.wrap (IntKind.i64.wrap (i9 + j10))) (2 ^ 1))) + 1))) (GX.m rfl (GX.done ?_)))))
   refine WK.nil (QF.normal (hK17 _ ?_))
   refine WK.nil (QF.normal ?_)
   refine ga13 _ f13 _ (Nat.lt_succ_self _) ?_ ⟨(IntKind.i64.wrap ((IntKind.i64.wrap (Int.fdiv (IntKind.u64.wrap (IntKind.i64.wrap (i9 + j10))) (2 ^ 1))) + 1)),j10,gg13,rfl⟩
   exact Conv.keep [0] [] [0,2,4,8,9,10] rfl rfl (qx rfl rfl (qx rfl (viewP_fnc gcmp2k) (qx rfl rfl (qx rfl rfl (qx rfl rfl (qx rfl rfl qy)))))) rfl rfl
theorem f144_ok (x0:qj) (p1:zy) (R:Int) (hR:F144 x0 p1 = R):FnOk Tryz.prog 144 [.agg (qj.c x0),.agg (zy.c p1)] [] 0 (.int .i64 R) [] 0:=by
 refine FnOk.wk i144 rfl rfl ?_
 unfold F144 at hR
 change WK _ _ _ [ac144] _ ⟨[(0,.agg (qj.c x0)),(1,.agg (zy.c p1))],[],0⟩
 unfold ac144
 refine WK.sr qv (GX.step (v':=.ptr 0 0) (zj:=[(0,.box (qj.c x0))]) (zk:=1) rfl rfl rfl rfl rfl rfl rfl (GX.step (v':=.ptr 1 0) (zj:=[(0,.box (qj.c x0)),(1,.box (zy.c p1))]) (zk:=2) rfl rfl rfl rfl rfl rfl rfl (GX.m rfl (GX.done (WK.seq (WK.drawn qv (RD.q (.ptr 0 0) (RD.q (.ptr 0 0) (RD.q (.int .u32 x0.P.A) (RD.q (.ptr 1 0) (RD.q (.int .u32 p1.A) ?_)))))))))))
 generalize hc10:F126 x0.P.A p1.A = c10 at hR
 try dsimp only at hR
 refine RD.callp (r:=.int .i64 c10) rfl rfl rfl (f126_ok x0.P.A p1.A _ hc10) rfl rfl (RD.q (.ptr 0 0) (RD.q (.ptr 0 1) (RD.q (.int .i64 x0.P.N) (RD.q (.ptr 1 1) (RD.q (.int .i64 p1.N) ?_)))))
 generalize hc16:F127 x0.P.N p1.N = c16 at hR
 try dsimp only at hR
 refine RD.callp (r:=.int .i64 c16) rfl rfl rfl (f127_ok x0.P.N p1.N _ hc16) rfl rfl (RD.step (v':=.own 2 1 0 (([c10,c16]:List Int)).length) (zj:=[(0,.box (qj.c x0)),(1,.box (zy.c p1)),(2,.row 1 3 (([c10,c16]:List Int).map c_i64))]) (zk:=3) rfl rfl rfl rfl rfl rfl rfl ?_)
 generalize hc18:F125 ([c10,c16]:List Int) = c18 at hR
 try dsimp only at hR
 refine RD.callbp (r:=.int .i64 c18) [2] rfl rfl rfl (qz (view_rowT rfl rfl) qw) (f125_ok ([c10,c16]:List Int) _ hc18) rfl rfl (RD.m rfl (RD.done rfl (WK.ret ?_)))
 subst hR
 exact RetQ.fr [] (.inr rfl) rfl rfl rfl rfl
theorem f108_ok (l0:List qj) (p1:zy) (c2:qj) (is3:Bool) (R:(List qj)) (hR:F108 l0 p1 c2 is3 = some R):FnOk Tryz.prog 108 [.ro 10 (l0.map qj.c),.agg (zy.c p1),.agg (qj.c c2),.bool is3] [] 0 (.ro 10 (R.map qj.c)) [] 0:=by
 refine FnOk.wk i108 rfl rfl ?_
 unfold F108 at hR
 try dsimp only at hR
 change WK _ _ _ [ac108] _ ⟨[(0,.ro 10 (l0.map qj.c)),(1,.agg (zy.c p1)),(2,.agg (qj.c c2)),(3,.bool is3)],[],0⟩
 unfold ac108
 refine WK.sr qv (GX.step (v':=.ptr 0 0) (zj:=[(0,.box (zy.c p1))]) (zk:=1) rfl rfl rfl rfl rfl rfl rfl (GX.step (v':=.ptr 1 0) (zj:=[(0,.box (zy.c p1)),(1,.box (qj.c c2))]) (zk:=2) rfl rfl rfl rfl rfl rfl rfl (GX.m rfl (GX.done (WK.sr qv (GX.m rfl (GX.q (.agg (zy.c p1)) ?_)))))))
 obtain ⟨c14,hc14,hR⟩:=wx hR; try dsimp only at hR
 refine GX.callp (r:=.tup [.int .i64 c14.1,.bool c14.2]) rfl rfl rfl (f143_ok l0 p1 144 [] [] (fun y0 y1=>F144 y0 y1) ⟨rfl,rfl⟩ (fun y0 y1 _ hr=>f144_ok y0 y1 _ hr) _ hc14) rfl rfl (GX.m rfl (GX.q (.int .i64 c14.1) (GX.q (.bool c14.2) (GX.m rfl (GX.m rfl (GX.done (WK.sr qv (GX.m rfl ?_))))))))
 rcases qq (decide (l0.length < 1099511627776)) with hg1 | hg1
 ·replace hR:=kz hg1 hR
  cases hR
 replace hR:=ky hg1 hR; try dsimp only at hR
 have hg1_:=of_decide_eq_true hg1
 refine GX.callx (r':=.own 2 10 0 l0.length) (zj:=[(0,.box (zy.c p1)),(1,.box (qj.c c2)),(2,.row 10 42 (l0.map qj.c))]) (zk:=3) [] [] rfl rfl rfl rfl rfl rfl (clone_okT (c:=qj.c) qv i85 l0 (by decide) (by omega) (by omega)) (.inl rfl) rfl rfl rfl (GX.m rfl (GX.done (WK.seq ?_)))
 refine WK.blockK (fun _ hK2=>?_)
 refine WK.sr qv (GX.m rfl (GX.m rfl ?_))
 rcases qq (c14.2) with hb3 | hb3
 ·rw [hb3]; first | replace hR:=kz hb3 hR | (try simp only [hb3,bb] at hR)
  refine GX.skip rfl rfl (GX.q (.bool false) (GX.m rfl (GX.done (WK.condF rfl (WK.sr qv (GX.m rfl (GX.m rfl (GX.done (WK.condF rfl (WK.sr qv (GX.m rfl (GX.m rfl (GX.done ?_)))))))))))))
  rcases qq (is3) with hb4 | hb4
  ·rw [hb4]; first | replace hR:=kz hb4 hR | (try simp only [hb4,bb] at hR)
   refine WK.condF rfl (WK.skip ?_)
   refine WK.nil (QF.normal (hK2 _ ?_))
   refine WK.sr qv (GX.m rfl (GX.m rfl (GX.done (WK.ret ?_))))
   obtain rfl:=Option.some.inj hR
   exact RetQ.fr [2] (.inr rfl) rfl rfl (qz (view_rowT rfl rfl) qw) rfl
  ·rw [hb4]; first | replace hR:=ky hb4 hR | (try simp only [hb4,bb] at hR)
   refine WK.condT rfl (WK.regx qv (GX.m rfl (GX.m rfl (GX.q (.agg (qj.c c2)) (GX.step (v':=.own 3 10 0 (([c2]:List qj)).length) (zj:=[(0,.box (zy.c p1)),(1,.box (qj.c c2)),(2,.row 10 42 (l0.map qj.c)),(3,.row 10 42 (([c2]:List qj).map qj.c))]) (zk:=4) rfl rfl rfl rfl rfl rfl rfl ?_)))))
   rcases qq (decide ((0:Int) ≤ c14.1)) with hg5 | hg5
   ·replace hR:=kz hg5 hR
    cases hR
   replace hR:=ky hg5 hR; try dsimp only at hR
   have hg5_:=of_decide_eq_true hg5
   rcases qq (decide (c14.1 ≤ (l0.length:Int))) with hg6 | hg6
   ·replace hR:=kz hg6 hR
    cases hR
   replace hR:=ky hg6 hR; try dsimp only at hR
   have hg6_:=of_decide_eq_true hg6
   refine GX.callx (r':=.own 4 10 0 (ins_ l0 c14.1 ([c2]:List qj)).length) (zj:=[(0,.box (zy.c p1)),(1,.box (qj.c c2)),(4,.row 10 42 ((ins_ l0 c14.1 ([c2]:List qj)).map qj.c))]) (zk:=5) [2,3] [] rfl rfl rfl rfl rfl rfl (insert_okT (c:=qj.c) (fun _=>rfl) qv i92 ov92 l0 ([c2]:List qj) c14.1 rfl rfl (by omega) (by omega) (by (simp; done)) (by ((try simp only [List.length_append,List.length_cons,List.length_nil,List.length_map,decide_eq_true_eq,decide_eq_false_iff_not] at *) <;> omega)) (by ((try simp only [List.length_append,List.length_cons,List.length_nil,List.length_map,decide_eq_true_eq,decide_eq_false_iff_not] at *) <;> omega))) (.inl rfl) rfl rfl rfl (GX.m rfl (GX.done ?_))
   refine WK.nil (QF.normal (hK2 _ ?_))
   refine WK.sr qv (GX.m rfl (GX.m rfl (GX.done (WK.ret ?_))))
   obtain rfl:=Option.some.inj hR
   exact RetQ.fr [4] (.inr rfl) rfl rfl (qz (view_rowT rfl rfl) qw) rfl
 ·rw [hb3]; first | replace hR:=ky hb3 hR | (try simp only [hb3,bb] at hR)
  refine GX.m rfl (GX.q (.bool is3) (GX.m rfl (GX.done ?_)))
  rcases qq (is3) with hb7 | hb7
  ·rw [hb7]; first | replace hR:=kz hb7 hR | (try simp only [hb7,bb] at hR)
   refine WK.condF rfl (WK.sr qv (GX.m rfl (GX.m rfl (GX.done (WK.condT rfl (WK.regx qv (GX.m rfl (GX.m rfl (GX.m rfl (GX.q (.int .i64 (IntKind.i64.wrap (c14.1 + 1))) ?_))))))))))
   rcases qq (decide ((0:Int) ≤ c14.1)) with hg8 | hg8
   ·replace hR:=kz hg8 hR
    cases hR
   replace hR:=ky hg8 hR; try dsimp only at hR
   have hg8_:=of_decide_eq_true hg8
   rcases qq (decide (c14.1 ≤ IntKind.i64.wrap (c14.1 + 1))) with hg9 | hg9
   ·replace hR:=kz hg9 hR
    cases hR
   replace hR:=ky hg9 hR; try dsimp only at hR
   have hg9_:=of_decide_eq_true hg9
   rcases qq (decide (IntKind.i64.wrap (c14.1 + 1) ≤ (l0.length:Int))) with hg10 | hg10
   ·replace hR:=kz hg10 hR
    cases hR
   replace hR:=ky hg10 hR; try dsimp only at hR
   have hg10_:=of_decide_eq_true hg10
   refine GX.callx (r':=.own 3 10 0 (del_ l0 c14.1 (IntKind.i64.wrap (c14.1 + 1))).length) (zj:=[(0,.box (zy.c p1)),(1,.box (qj.c c2)),(3,.row 10 42 ((del_ l0 c14.1 (IntKind.i64.wrap (c14.1 + 1))).map qj.c))]) (zk:=4) [2] [] rfl rfl rfl rfl rfl rfl (delete_okT (c:=qj.c) (fun _=>rfl) qv i111 l0 c14.1 (IntKind.i64.wrap (c14.1 + 1)) rfl (by omega) (by omega) (by omega) (by omega)) (.inl rfl) rfl rfl rfl (GX.m rfl (GX.done ?_))
   refine WK.nil (QF.normal (hK2 _ ?_))
   refine WK.sr qv (GX.m rfl (GX.m rfl (GX.done (WK.ret ?_))))
   obtain rfl:=Option.some.inj hR
   exact RetQ.fr [3] (.inr rfl) rfl rfl (qz (view_rowT rfl rfl) qw) rfl
  ·rw [hb7]; first | replace hR:=ky hb7 hR | (try simp only [hb7,bb] at hR)
   refine WK.condT rfl (WK.regx qv (GX.m rfl (GX.m rfl (GX.q (.agg (qj.c c2)) ?_))))
   obtain ⟨x910,hx910,hR⟩:=wx hR; try dsimp only at hR
   obtain ⟨hx9100,hx910j,hx910l,hx910⟩:=kx hx910
   refine GX.pure (v':=.eptr 2 10 c14.1.toNat 0) rfl rfl rfl (core_idxoT (c:=qj.c) (L:=l0) (j:=c14.1.toNat) rfl hx910j hx910l (by exact Nat.le_refl _)) rfl (GX.step0 (zj:=[(0,.box (zy.c p1)),(1,.box (qj.c c2)),(2,.row 10 42 ((l0.set c14.1.toNat c2).map qj.c))]) (zk:=3) rfl rfl (core_stoT (c:=qj.c) (L:=l0) (x:=x910) (x':=c2) rfl hx910 rfl rfl rfl rfl rfl) rfl rfl (GX.done ?_))
   refine WK.nil (QF.normal (hK2 _ ?_))
   refine WK.sr qv (GX.m rfl (GX.m rfl (GX.done (WK.ret ?_))))
   obtain rfl:=Option.some.inj hR
   exact RetQ.fr [2] (.inr rfl) rfl rfl (qz (view_rowM rfl rfl (by simp)) qw) rfl
theorem f46_ok (c0:qj) (from1:Int) (R:Bool) (hR:F46 c0 from1 = R):FnOk Tryz.prog 46 [.agg (qj.c c0),.int .i64 from1] [] 0 (.bool R) [] 0:=by
 refine FnOk.wk i46 rfl rfl ?_
 unfold F46 at hR
 change WK _ _ _ [ac46] _ ⟨[(0,.agg (qj.c c0)),(1,.int .i64 from1)],[],0⟩
 unfold ac46
 refine WK.sr qv (GX.step (v':=.ptr 0 0) (zj:=[(0,.box (qj.c c0))]) (zk:=1) rfl rfl rfl rfl rfl rfl rfl (GX.m rfl (GX.done (WK.sr qv (GX.q (.ptr 0 7) (GX.q (.bool c0.Leaked) (GX.m rfl ?_)))))))
 rcases qq (c0.Leaked) with hb1 | hb1
 ·rw [hb1]; try simp only [hb1,bb] at hR
  iterate 4 refine GX.skip rfl rfl ?_
  refine GX.q (.bool false) (GX.m rfl (GX.done (WK.ret ?_)))
  subst hR
  exact RetQ.fr [] (.inr rfl) rfl rfl rfl rfl
 ·rw [hb1]; try simp only [hb1,bb] at hR
  refine GX.q (.ptr 0 8) (GX.q (.int .i64 c0.From) (GX.m rfl (GX.q (.bool (decide (c0.From = from1))) (GX.q (.bool (decide (c0.From = from1))) (GX.m rfl (GX.done (WK.ret ?_)))))))
  subst hR
  exact RetQ.fr [] (.inr rfl) rfl rfl rfl rfl
theorem f109_ok (c0:qj) (a1:Int) (a2:zy) (R:Bool) (hR:F109 c0 a1 a2 = R):FnOk Tryz.prog 109 [.agg (qj.c c0),.rptr [.int .i64 a1],.rptr (zy.c a2)] [] 0 (.bool R) [] 0:=by
 refine FnOk.wk i109 rfl rfl ?_
 unfold F109 at hR
 change WK _ _ _ [ac109] _ ⟨[(0,.agg (qj.c c0)),(1,.rptr [.int .i64 a1]),(2,.rptr (zy.c a2))],[],0⟩
 unfold ac109
 refine WK.sr qv (GX.step (v':=.ptr 0 0) (zj:=[(0,.box (qj.c c0))]) (zk:=1) rfl rfl rfl rfl rfl rfl rfl (GX.m rfl (GX.done (WK.sr qv (GX.q (.agg (qj.c c0)) (GX.q (.int .i64 a1) ?_))))))
 generalize hc7:F46 c0 a1 = c7 at hR
 try dsimp only at hR
 refine GX.callp (r:=.bool c7) rfl rfl rfl (f46_ok c0 a1 _ hc7) rfl rfl (GX.m rfl ?_)
 rcases qq (c7) with hb1 | hb1
 ·rw [hb1]; try simp only [hb1,bb] at hR
  iterate 4 refine GX.skip rfl rfl ?_
  refine GX.q (.bool false) (GX.m rfl (GX.done (WK.ret ?_)))
  subst hR
  exact RetQ.fr [] (.inr rfl) rfl rfl rfl rfl
 ·rw [hb1]; try simp only [hb1,bb] at hR
  refine GX.q (.ptr 0 0) ?_
  refine GX.q (.agg (zy.c c0.P)) ?_
  refine GX.q (.agg (zy.c a2)) ?_
  iterate 2 refine GX.q (.bool (decide (c0.P.A = a2.A) && (decide (c0.P.N = a2.N) && true))) ?_
  refine GX.m rfl ?_
  refine GX.done ?_
  refine WK.ret ?_
  subst hR
  exact RetQ.fr [] (.inr rfl) rfl rfl rfl rfl
theorem f71_ok (n0:TNet) (at1:Int) (p2:zy) (R:TNet) (hR:F71 n0 at1 p2 = some R):FnOk Tryz.prog 71 [.ptr 0 0,.int .i64 at1,.agg (zy.c p2)] [(0,.box [.own 1 1 0 n0.T.length,.own 2 1 0 n0.Sel.length,.ro 3 (n0.L.map zz.c),.own 3 3 0 n0.Work.length,.bool n0.Over]),(1,.row 1 36 (n0.T.map qk.c)),(2,.row 1 34 (n0.Sel.map (wq 10 qj.c))),(3,.row 3 108 (n0.Work.map zw.c))] 4 (.tup []) [(0,.box [.own 4 1 0 R.T.length,.own 5 1 0 R.Sel.length,.ro 3 (R.L.map zz.c),.own 6 3 0 R.Work.length,.bool R.Over]),(4,.row 1 36 (R.T.map qk.c)),(5,.row 1 34 (R.Sel.map (wq 10 qj.c))),(6,.row 3 108 (R.Work.map zw.c))] 7:=by
 refine FnOk.wk i71 rfl rfl ?_
 unfold F71 at hR
 try dsimp only at hR
 change WK _ _ _ [ac71] _ ⟨[(0,.ptr 0 0),(1,.int .i64 at1),(2,.agg (zy.c p2))],[(0,.box [.own 1 1 0 n0.T.length,.own 2 1 0 n0.Sel.length,.ro 3 (n0.L.map zz.c),.own 3 3 0 n0.Work.length,.bool n0.Over]),(1,.row 1 36 (n0.T.map qk.c)),(2,.row 1 34 (n0.Sel.map (wq 10 qj.c))),(3,.row 3 108 (n0.Work.map zw.c))],4⟩
 unfold ac71
 refine WK.mvB (id:=0) (j:=0) (zj:=[(0,.box [.own 4 1 0 n0.T.length,.own 2 1 0 n0.Sel.length,.ro 3 (n0.L.map zz.c),.own 3 3 0 n0.Work.length,.bool n0.Over]),(2,.row 1 34 (n0.Sel.map (wq 10 qj.c))),(3,.row 3 108 (n0.Work.map zw.c)),(4,.row 1 36 (n0.T.map qk.c))]) rfl rfl rfl (by simp) rfl (WK.mvB (id:=0) (j:=1) (zj:=[(0,.box [.own 4 1 0 n0.T.length,.own 5 1 0 n0.Sel.length,.ro 3 (n0.L.map zz.c),.own 3 3 0 n0.Work.length,.bool n0.Over]),(3,.row 3 108 (n0.Work.map zw.c)),(4,.row 1 36 (n0.T.map qk.c)),(5,.row 1 34 (n0.Sel.map (wq 10 qj.c)))]) rfl rfl rfl (by simp) rfl (WK.mvB (id:=0) (j:=3) (zj:=[(0,.box [.own 4 1 0 n0.T.length,.own 5 1 0 n0.Sel.length,.ro 3 (n0.L.map zz.c),.own 6 3 0 n0.Work.length,.bool n0.Over]),(4,.row 1 36 (n0.T.map qk.c)),(5,.row 1 34 (n0.Sel.map (wq 10 qj.c))),(6,.row 3 108 (n0.Work.map zw.c))]) rfl rfl rfl (by simp) rfl (WK.sr qv (GX.step (v':=.ptr 7 0) (zj:=[(0,.box [.own 4 1 0 n0.T.length,.own 5 1 0 n0.Sel.length,.ro 3 (n0.L.map zz.c),.own 6 3 0 n0.Work.length,.bool n0.Over]),(4,.row 1 36 (n0.T.map qk.c)),(5,.row 1 34 (n0.Sel.map (wq 10 qj.c))),(6,.row 3 108 (n0.Work.map zw.c)),(7,.box [.int .i64 at1])]) (zk:=8) rfl rfl rfl rfl rfl rfl rfl (GX.step (v':=.ptr 8 0) (zj:=[(0,.box [.own 4 1 0 n0.T.length,.own 5 1 0 n0.Sel.length,.ro 3 (n0.L.map zz.c),.own 6 3 0 n0.Work.length,.bool n0.Over]),(4,.row 1 36 (n0.T.map qk.c)),(5,.row 1 34 (n0.Sel.map (wq 10 qj.c))),(6,.row 3 108 (n0.Work.map zw.c)),(7,.box [.int .i64 at1]),(8,.box (zy.c p2))]) (zk:=9) rfl rfl rfl rfl rfl rfl rfl (GX.done (WK.seq (WK.drawn qv (RD.m rfl (RD.q (.ptr 0 0) (RD.q (.ptr 0 0) (RD.q (.own 4 1 0 n0.T.length) (RD.q (.int .i64 at1) ?_)))))))))))))
 obtain ⟨x900,hx900,hR⟩:=wx hR; try dsimp only at hR
 obtain ⟨hx9000,hx900j,hx900l,hx900⟩:=kx hx900
 refine RD.pure (v':=.eptr 4 1 at1.toNat 0) rfl rfl rfl (core_idxoT (c:=qk.c) (L:=n0.T) (j:=at1.toNat) rfl hx900j hx900l (by exact Nat.le_refl _)) rfl (RD.pure (v':=.agg (qk.c x900)) rfl rfl rfl (core_loaT (c:=qk.c) (L:=n0.T) (x:=x900) rfl hx900 rfl) rfl (RD.q (.agg (zy.c p2)) ?_))
 obtain ⟨c24,hc24,hR⟩:=wx hR; try dsimp only at hR
 refine RD.callp (r:=.tup [.agg (qj.c c24.1),.bool c24.2]) rfl rfl rfl (f107_ok x900 p2 _ hc24) rfl rfl (RD.m rfl (RD.q (.agg (qj.c c24.1)) (RD.q (.bool c24.2) (RD.step (v':=.ptr 9 0) (zj:=[(0,.box [.own 4 1 0 n0.T.length,.own 5 1 0 n0.Sel.length,.ro 3 (n0.L.map zz.c),.own 6 3 0 n0.Work.length,.bool n0.Over]),(4,.row 1 36 (n0.T.map qk.c)),(5,.row 1 34 (n0.Sel.map (wq 10 qj.c))),(6,.row 3 108 (n0.Work.map zw.c)),(7,.box [.int .i64 at1]),(8,.box (zy.c p2)),(9,.box [.int .u32 0,.int .i64 0,.int .i64 0,.int .i64 0,.int .i64 0,.int .i64 0,.int .u32 0,.bool false,.int .i64 0,.nils])]) (zk:=10) rfl rfl rfl rfl rfl rfl rfl (RD.step0 (zj:=[(0,.box [.own 4 1 0 n0.T.length,.own 5 1 0 n0.Sel.length,.ro 3 (n0.L.map zz.c),.own 6 3 0 n0.Work.length,.bool n0.Over]),(4,.row 1 36 (n0.T.map qk.c)),(5,.row 1 34 (n0.Sel.map (wq 10 qj.c))),(6,.row 3 108 (n0.Work.map zw.c)),(7,.box [.int .i64 at1]),(8,.box (zy.c p2)),(9,.box (qj.c c24.1))]) (zk:=10) rfl rfl rfl rfl rfl (RD.m rfl (RD.done rfl (WK.seq (WK.drawn qv (RD.m rfl (RD.q (.ptr 0 0) (RD.q (.ptr 0 1) (RD.q (.own 5 1 0 n0.Sel.length) ?_)))))))))))))
 refine RD.q (.int .i64 at1) (RD.m rfl (RD.q (.ptr 0 0) (RD.q (.ptr 0 1) (RD.q (.own 5 1 0 n0.Sel.length) (RD.q (.int .i64 at1) ?_)))))
 obtain ⟨x901,hx901,hR⟩:=wx hR; try dsimp only at hR
 obtain ⟨hx9010,hx901j,hx901l,hx901⟩:=kx hx901
 refine RD.pure (v':=.eptr 5 1 at1.toNat 0) rfl rfl rfl (core_idxoT (c:=(wq 10 qj.c)) (L:=n0.Sel) (j:=at1.toNat) rfl hx901j hx901l (by exact Nat.le_refl _)) rfl (RD.pure (v':=.ro 10 (x901.map qj.c)) rfl rfl rfl (core_loaT (c:=(wq 10 qj.c)) (L:=n0.Sel) (x:=x901) rfl hx901 rfl) rfl (RD.q (.agg (zy.c p2)) (RD.q (.agg (qj.c c24.1)) (RD.m rfl ?_))))
 obtain ⟨c42,hc42,hR⟩:=wx hR; try dsimp only at hR
 try dsimp only at hR
 refine RD.callp (r:=.ro 10 (c42.map qj.c)) rfl rfl rfl (f108_ok x901 p2 c24.1 c24.2 _ hc42) rfl rfl (RD.pure (v':=.eptr 5 1 at1.toNat 0) rfl rfl rfl (core_idxoT (c:=(wq 10 qj.c)) (L:=n0.Sel) (j:=at1.toNat) rfl hx901j hx901l (by exact Nat.le_refl _)) rfl (RD.step0 (zj:=[(0,.box [.own 4 1 0 n0.T.length,.own 5 1 0 n0.Sel.length,.ro 3 (n0.L.map zz.c),.own 6 3 0 n0.Work.length,.bool n0.Over]),(4,.row 1 36 (n0.T.map qk.c)),(5,.row 1 34 ((n0.Sel.set at1.toNat c42).map (wq 10 qj.c))),(6,.row 3 108 (n0.Work.map zw.c)),(7,.box [.int .i64 at1]),(8,.box (zy.c p2)),(9,.box (qj.c c24.1))]) (zk:=10) rfl rfl (core_stoT (c:=(wq 10 qj.c)) (L:=n0.Sel) (x:=x901) (x':=c42) rfl hx901 rfl rfl rfl rfl rfl) rfl rfl (RD.done rfl (WK.sr qv (GX.m rfl (GX.q (.ptr 0 0) (GX.q (.ptr 0 2) (GX.q (.ro 3 (n0.L.map zz.c)) (GX.pure (v':=.int .i64 (n0.L.length:Int)) rfl rfl rfl rfl (ww _ _) (GX.m rfl (GX.done ?_)))))))))))
 refine WK.conv (st':=⟨[(0,.ptr 0 0),(4,.rptr [.int .i64 at1]),(5,.rptr (zy.c p2)),(6,.ptr 7 0),(7,.bool c24.2),(47,.ro 3 (n0.L.map zz.c)),(48,.int .i64 (n0.L.length:Int)),(49,.int .i64 0)],[(0,.box [.own 4 1 0 n0.T.length,.own 5 1 0 n0.Sel.length,.ro 3 (n0.L.map zz.c),.own 6 3 0 n0.Work.length,.bool n0.Over]),(4,.row 1 36 (n0.T.map qk.c)),(5,.row 1 34 ((n0.Sel.set at1.toNat c42).map (wq 10 qj.c))),(6,.row 3 108 (n0.Work.map zw.c)),(7,.box (qj.c c24.1))],8⟩) (Conv.keepR [0,1,2,3,4,5,6,9] [7,8] [0,4,5,6,7,47,48,49] rfl rfl (qx rfl rfl (qx rfl rfl (qx rfl rfl (qx rfl rfl (qx rfl rfl (qx rfl rfl (qx rfl rfl (qx rfl rfl qy)))))))) rfl rfl) ?_ (by simp)
 refine WK.len (t:=47) rfl (by simp) (fun ge31=>?_)
 rw [List.length_map] at ge31
 generalize gi31:F71l1 at1 p2 c24 c24.2 (⟨n0.T,(n0.Sel.set at1.toNat c42),n0.L,n0.Work,n0.Over⟩ : TNet) n0.L = gh31 at hR
 refine WK.forK (fun k s=>∃ (i49:Nat) (is7:Bool) (n0x:TNet),i49 ≤ n0.L.length ∧ k = n0.L.length - i49 ∧ F71l1 at1 p2 c24 is7 n0x (n0.L.drop i49) = gh31 ∧ s = ⟨[(0,.ptr 0 0),(4,.rptr [.int .i64 at1]),(5,.rptr (zy.c p2)),(6,.ptr 7 0),(7,.bool is7),(47,.ro 3 (n0.L.map zz.c)),(48,.int .i64 (n0.L.length:Int)),(49,.int .i64 (i49:Int))],[(0,.box [.own 4 1 0 n0x.T.length,.own 5 1 0 n0x.Sel.length,.ro 3 (n0x.L.map zz.c),.own 6 3 0 n0x.Work.length,.bool n0x.Over]),(4,.row 1 36 (n0x.T.map qk.c)),(5,.row 1 34 (n0x.Sel.map (wq 10 qj.c))),(6,.row 3 108 (n0x.Work.map zw.c)),(7,.box (qj.c c24.1))],8⟩) n0.L.length (by refine ⟨_,?_,0,c24.2,(⟨n0.T,(n0.Sel.set at1.toNat c42),n0.L,n0.Work,n0.Over⟩ : TNet),(by omega),rfl,gi31,rfl⟩; exact Conv.keepR [0,1,2,3,4,5,6,7] [] [0,4,5,6,7,47,48,49] rfl rfl (qx rfl rfl (qx rfl rfl (qx rfl rfl (qx rfl rfl (qx rfl rfl (qx rfl rfl (qx rfl rfl (qx rfl rfl qy)))))))) (subR_cons rfl (viewO_box (qz rfl (qz (viewP_own_len rfl (by simp)) (qz rfl (qz rfl (qz rfl qw)))))) (subR_skip rfl (subR_skip rfl (subR_skip rfl (subR_cons rfl rfl (subR_cons rfl rfl (subR_cons rfl rfl (subR_cons rfl rfl subR_nil)))))))) rfl) ?_
 rintro _ _ ⟨i49,is7,n0x,gj31,rfl,gg31,rfl⟩ gb31 gd31 gk31 ga31 gc31 gf31
 refine WK.sr qv (GX.q (.bool (decide ((i49:Int) < (n0.L.length:Int)))) (GX.done (WK.seq ?_)))
 rcases qq (decide ((i49:Int) < (n0.L.length:Int))) with hb32 | hb32
 ·rw [hb32]
  rw [drop_end hb32,F71l1] at gg31
  refine WK.condF rfl (WK.exit ?_)
  refine QF.exit (gc31 _ ?_)
  subst gg31
  replace hR:=obind_s hR; try dsimp only at hR
  refine WK.nil ?_
  obtain rfl:=Option.some.inj hR
  exact RetQ.ret [0,1,2,3,4,5,6] [] (.inl rfl) rfl rfl rfl rfl rfl .refl rfl
 ·rw [hb32]
  obtain ⟨x49,hx31,hd31,hlt31⟩:=drop_more hb32
  rw [hd31,F71l1] at gg31
  refine WK.condT rfl (WK.skip (WK.seq ?_))
  refine WK.blockK (fun _ hK33=>?_)
  refine WK.sr qv (GX.idxT (c:=zz.c) (x:=x49) rfl rfl rfl (Int.natCast_nonneg _) hx31 (GX.q (.agg (zz.c x49)) (GX.step (v':=.ptr 8 0) (zj:=[(0,.box [.own 4 1 0 n0x.T.length,.own 5 1 0 n0x.Sel.length,.ro 3 (n0x.L.map zz.c),.own 6 3 0 n0x.Work.length,.bool n0x.Over]),(4,.row 1 36 (n0x.T.map qk.c)),(5,.row 1 34 (n0x.Sel.map (wq 10 qj.c))),(6,.row 3 108 (n0x.Work.map zw.c)),(7,.box (qj.c c24.1)),(8,.box [.int .i64 0,.int .i64 0,.nils])]) (zk:=9) rfl rfl rfl rfl rfl rfl rfl (GX.step0 (zj:=[(0,.box [.own 4 1 0 n0x.T.length,.own 5 1 0 n0x.Sel.length,.ro 3 (n0x.L.map zz.c),.own 6 3 0 n0x.Work.length,.bool n0x.Over]),(4,.row 1 36 (n0x.T.map qk.c)),(5,.row 1 34 (n0x.Sel.map (wq 10 qj.c))),(6,.row 3 108 (n0x.Work.map zw.c)),(7,.box (qj.c c24.1)),(8,.box (zz.c x49))]) (zk:=9) rfl rfl rfl rfl rfl (GX.done (WK.seq (WK.sr qv (GX.q (.ptr 8 0) (GX.q (.int .i64 x49.From) (GX.q (.int .i64 at1) (GX.q (.bool (!decide (x49.From = at1))) (GX.done ?_))))))))))))
  rcases qq (decide (x49.From = at1)) with hb34 | hb34
  ·rw [hb34]; try simp only [hb34,bb] at gg31
   refine WK.condT rfl (WK.exit ?_)
   refine QF.exit (hK33 _ ?_)
   refine WK.regx qv (GX.pure (v':=.int .i64 ((i49 + 1:Nat):Int)) rfl rfl rfl rfl (congrArg (PVal.int .i64) (wrap_up hlt31 ge31)) (GX.m rfl (GX.done ?_)))
   refine WK.nil (QF.normal ?_)
   refine ga31 _ (n0.L.length - (i49 + 1)) _ (by omega) ?_ ⟨i49 + 1,is7,n0x,(by omega),rfl,gg31,rfl⟩
   exact Conv.keepR [0,1,2,3,4,5,6,7] [] [0,4,5,6,7,47,48,49] rfl rfl (qx rfl rfl (qx rfl rfl (qx rfl rfl (qx rfl rfl (qx rfl rfl (qx rfl rfl (qx rfl rfl (qx rfl rfl qy)))))))) rfl rfl
  ·rw [hb34]; try simp only [hb34,bb] at gg31
   refine WK.condF rfl (WK.skip (WK.seq (WK.drawn qv (RD.m rfl (RD.q (.ptr 0 0) (RD.q (.ptr 0 0) (RD.q (.own 4 1 0 n0x.T.length) (RD.q (.ptr 8 1) (RD.q (.int .i64 x49.To) ?_)))))))))
   rcases wy gg31 with ⟨_,gg31⟩ | ⟨x934,hx934,gg31⟩
   ·subst gg31
    first | replace hR:=wz hR | replace hR:=oexc_n hR
    cases hR
   try dsimp only at gg31
   obtain ⟨hx9340,hx934j,hx934l,hx934⟩:=kx hx934
   refine RD.pure (v':=.eptr 4 1 x49.To.toNat 0) rfl rfl rfl (core_idxoT (c:=qk.c) (L:=n0x.T) (j:=x49.To.toNat) rfl hx934j hx934l (by exact Nat.le_refl _)) rfl (RD.pure (v':=.agg (qk.c x934)) rfl rfl rfl (core_loaT (c:=qk.c) (L:=n0x.T) (x:=x934) rfl hx934 rfl) rfl (RD.q (.fn 109 [] [.rptr [.int .i64 at1],.rptr (zy.c p2)]) ?_))
   rcases wy gg31 with ⟨_,gg31⟩ | ⟨c66,hc66,gg31⟩
   ·subst gg31
    first | replace hR:=wz hR | replace hR:=oexc_n hR
    cases hR
   try dsimp only at gg31
   try dsimp only at gg31
   refine RD.callp (r:=.agg [.ro 10 (c66.L.map qj.c)]) rfl rfl rfl (f42_ok x934 109 [] [.rptr [.int .i64 at1],.rptr (zy.c p2)] (fun y0=>F109 y0 at1 p2) ⟨rfl,rfl⟩ (fun y0 _ hr=>f109_ok y0 at1 p2 _ hr) _ hc66) rfl rfl (RD.step (v':=.ptr 9 0) (zj:=[(0,.box [.own 4 1 0 n0x.T.length,.own 5 1 0 n0x.Sel.length,.ro 3 (n0x.L.map zz.c),.own 6 3 0 n0x.Work.length,.bool n0x.Over]),(4,.row 1 36 (n0x.T.map qk.c)),(5,.row 1 34 (n0x.Sel.map (wq 10 qj.c))),(6,.row 3 108 (n0x.Work.map zw.c)),(7,.box (qj.c c24.1)),(8,.box (zz.c x49)),(9,.box [.nils])]) (zk:=10) rfl rfl rfl rfl rfl rfl rfl (RD.step0 (zj:=[(0,.box [.own 4 1 0 n0x.T.length,.own 5 1 0 n0x.Sel.length,.ro 3 (n0x.L.map zz.c),.own 6 3 0 n0x.Work.length,.bool n0x.Over]),(4,.row 1 36 (n0x.T.map qk.c)),(5,.row 1 34 (n0x.Sel.map (wq 10 qj.c))),(6,.row 3 108 (n0x.Work.map zw.c)),(7,.box (qj.c c24.1)),(8,.box (zz.c x49)),(9,.box (qk.c c66))]) (zk:=10) rfl rfl rfl rfl rfl (RD.done rfl (WK.seq (WK.sr qv (GX.q (.agg (zz.c x49)) (GX.q (.agg (qj.c c24.1)) ?_)))))))
   rcases wy gg31 with ⟨_,gg31⟩ | ⟨c70,hc70,gg31⟩
   ·subst gg31
    first | replace hR:=wz hR | replace hR:=oexc_n hR
    cases hR
   try dsimp only at gg31
   refine GX.callp (r:=.tup [.agg (qj.c c70.1),.bool c70.2]) rfl rfl rfl (f47_ok x49 c24.1 _ hc70) rfl rfl (GX.m rfl (GX.q (.agg (qj.c c70.1)) (GX.q (.bool c70.2) (GX.step (v':=.ptr 10 0) (zj:=[(0,.box [.own 4 1 0 n0x.T.length,.own 5 1 0 n0x.Sel.length,.ro 3 (n0x.L.map zz.c),.own 6 3 0 n0x.Work.length,.bool n0x.Over]),(4,.row 1 36 (n0x.T.map qk.c)),(5,.row 1 34 (n0x.Sel.map (wq 10 qj.c))),(6,.row 3 108 (n0x.Work.map zw.c)),(7,.box (qj.c c24.1)),(8,.box (zz.c x49)),(9,.box (qk.c c66)),(10,.box [.int .u32 0,.int .i64 0,.int .i64 0,.int .i64 0,.int .i64 0,.int .i64 0,.int .u32 0,.bool false,.int .i64 0,.nils])]) (zk:=11) rfl rfl rfl rfl rfl rfl rfl (GX.step0 (zj:=[(0,.box [.own 4 1 0 n0x.T.length,.own 5 1 0 n0x.Sel.length,.ro 3 (n0x.L.map zz.c),.own 6 3 0 n0x.Work.length,.bool n0x.Over]),(4,.row 1 36 (n0x.T.map qk.c)),(5,.row 1 34 (n0x.Sel.map (wq 10 qj.c))),(6,.row 3 108 (n0x.Work.map zw.c)),(7,.box (qj.c c24.1)),(8,.box (zz.c x49)),(9,.box (qk.c c66)),(10,.box (qj.c c70.1))]) (zk:=11) rfl rfl rfl rfl rfl (GX.m rfl (GX.done (WK.sr qv (GX.m rfl (GX.m rfl ?_))))))))))
   rcases qq (c70.2) with hb36 | hb36
   ·rw [hb36]; try simp only [hb36,bb] at gg31
    refine GX.skip rfl rfl (GX.q (.bool false) (GX.done (WK.condF rfl (WK.skip (WK.seq (WK.drawn qv (RD.q (.ptr 9 0) (RD.q (.ro 10 (c66.L.map qj.c)) (RD.m rfl (RD.q (.ptr 0 0) (RD.q (.ptr 0 0) (RD.q (.own 4 1 0 n0x.T.length) (RD.q (.ptr 8 1) ?_)))))))))))))
    refine RD.q (.int .i64 x49.To) (RD.pure (v':=.eptr 4 1 x49.To.toNat 0) rfl rfl rfl (core_idxoT (c:=qk.c) (L:=n0x.T) (j:=x49.To.toNat) rfl hx934j hx934l (by exact Nat.le_refl _)) rfl (RD.pure (v':=.eptr 4 1 x49.To.toNat 0) rfl rfl rfl (core_fldT (c:=qk.c) (L:=n0x.T) rfl (by omega) rfl) rfl (RD.pure (v':=.ro 10 (x934.L.map qj.c)) rfl rfl rfl (core_loaT (c:=qk.c) (L:=n0x.T) (x:=x934) rfl hx934 rfl) rfl ?_)))
    generalize hc106:F56 c66.L x934.L (fun y0 y1=>F57 y0 y1) = c106 at gg31
    try dsimp only at gg31
    refine RD.callp (r:=.bool c106) rfl rfl rfl (f56_ok c66.L x934.L 57 [] [] (fun y0 y1=>F57 y0 y1) ⟨rfl,rfl⟩ (fun y0 y1 _ hr=>f57_ok y0 y1 _ hr) _ hc106) rfl rfl (RD.q (.bool (!c106)) (RD.done rfl ?_))
    rcases qq (c106) with hb37 | hb37
    ·rw [hb37]; try simp only [hb37,bb] at gg31
     refine WK.condT rfl (WK.seq (WK.drawn qv (RD.m rfl (RD.q (.ptr 0 0) (RD.q (.ptr 0 0) (RD.q (.own 4 1 0 n0x.T.length) (RD.q (.ptr 8 1) (RD.q (.int .i64 x49.To) (RD.q (.agg (qk.c c66)) (RD.pure (v':=.eptr 4 1 x49.To.toNat 0) rfl rfl rfl (core_idxoT (c:=qk.c) (L:=n0x.T) (j:=x49.To.toNat) rfl hx934j hx934l (by exact Nat.le_refl _)) rfl (RD.step0 (zj:=[(0,.box [.own 4 1 0 n0x.T.length,.own 5 1 0 n0x.Sel.length,.ro 3 (n0x.L.map zz.c),.own 6 3 0 n0x.Work.length,.bool n0x.Over]),(4,.row 1 36 ((n0x.T.set x49.To.toNat c66).map qk.c)),(5,.row 1 34 (n0x.Sel.map (wq 10 qj.c))),(6,.row 3 108 (n0x.Work.map zw.c)),(7,.box (qj.c c24.1)),(8,.box (zz.c x49)),(9,.box (qk.c c66)),(10,.box (qj.c c70.1))]) (zk:=11) rfl rfl (core_stoT (c:=qk.c) (L:=n0x.T) (x:=x934) (x':=c66) rfl hx934 rfl rfl rfl rfl rfl) rfl rfl (RD.done rfl (WK.regx qv ?_)))))))))))))
     refine GX.m rfl (GX.q (.ptr 8 1) (GX.q (.int .i64 x49.To) (GX.q (.agg (zy.c p2)) ?_)))
     rcases wy gg31 with ⟨_,gg31⟩ | ⟨c120,hc120,gg31⟩
     ·subst gg31
      first | replace hR:=wz hR | replace hR:=oexc_n hR
      cases hR
     try dsimp only at gg31
     try dsimp only at gg31
     refine GX.callx (r':=.tup []) (zj:=[(0,.box [.own 11 1 0 c120.T.length,.own 12 1 0 c120.Sel.length,.ro 3 (c120.L.map zz.c),.own 13 3 0 c120.Work.length,.bool c120.Over]),(7,.box (qj.c c24.1)),(8,.box (zz.c x49)),(9,.box (qk.c c66)),(10,.box (qj.c c70.1)),(13,.row 3 108 (c120.Work.map zw.c)),(12,.row 1 34 (c120.Sel.map (wq 10 qj.c))),(11,.row 1 36 (c120.T.map qk.c))]) (zk:=14) [0,4,5,6] [] rfl rfl rfl rfl rfl rfl (by have hst:=(f68_ok (⟨(n0x.T.set x49.To.toNat c66),n0x.Sel,n0x.L,n0x.Work,n0x.Over⟩ : TNet) x49.To p2 _ hc120); simp only [List.length_set] at hst; exact hst) (.inl rfl) rfl rfl rfl (GX.done ?_)
     refine WK.nil (QF.normal (hK33 _ ?_))
     refine WK.regx qv (GX.pure (v':=.int .i64 ((i49 + 1:Nat):Int)) rfl rfl rfl rfl (congrArg (PVal.int .i64) (wrap_up hlt31 ge31)) (GX.m rfl (GX.done ?_)))
     refine WK.nil (QF.normal ?_)
     refine ga31 _ (n0.L.length - (i49 + 1)) _ (by omega) ?_ ⟨i49 + 1,is7,c120,(by omega),rfl,gg31,rfl⟩
     exact Conv.keepR [0,1,2,3,11,12,13,7] [] [0,4,5,6,7,47,48,49] rfl rfl (qx rfl rfl (qx rfl rfl (qx rfl rfl (qx rfl rfl (qx rfl rfl (qx rfl rfl (qx rfl rfl (qx rfl rfl qy)))))))) rfl rfl
    ·rw [hb37]; try simp only [hb37,bb] at gg31
     refine WK.condF rfl (WK.skip ?_)
     refine WK.nil (QF.normal (hK33 _ ?_))
     refine WK.regx qv (GX.pure (v':=.int .i64 ((i49 + 1:Nat):Int)) rfl rfl rfl rfl (congrArg (PVal.int .i64) (wrap_up hlt31 ge31)) (GX.m rfl (GX.done ?_)))
     refine WK.nil (QF.normal ?_)
     refine ga31 _ (n0.L.length - (i49 + 1)) _ (by omega) ?_ ⟨i49 + 1,is7,n0x,(by omega),rfl,gg31,rfl⟩
     exact Conv.keepR [0,1,2,3,4,5,6,7] [] [0,4,5,6,7,47,48,49] rfl rfl (qx rfl rfl (qx rfl rfl (qx rfl rfl (qx rfl rfl (qx rfl rfl (qx rfl rfl (qx rfl rfl (qx rfl rfl qy)))))))) rfl rfl
   ·rw [hb36]; try simp only [hb36,bb] at gg31
    refine GX.m rfl (GX.q (.bool is7) (GX.done ?_))
    rcases qq (is7) with hb39 | hb39
    ·rw [hb39]; try simp only [hb39,bb] at gg31
     refine WK.condF rfl (WK.skip (WK.seq (WK.drawn qv (RD.q (.ptr 9 0) (RD.q (.ro 10 (c66.L.map qj.c)) (RD.m rfl (RD.q (.ptr 0 0) (RD.q (.ptr 0 0) (RD.q (.own 4 1 0 n0x.T.length) (RD.q (.ptr 8 1) (RD.q (.int .i64 x49.To) (RD.pure (v':=.eptr 4 1 x49.To.toNat 0) rfl rfl rfl (core_idxoT (c:=qk.c) (L:=n0x.T) (j:=x49.To.toNat) rfl hx934j hx934l (by exact Nat.le_refl _)) rfl (RD.pure (v':=.eptr 4 1 x49.To.toNat 0) rfl rfl rfl (core_fldT (c:=qk.c) (L:=n0x.T) rfl (by omega) rfl) rfl ?_)))))))))))))
     refine RD.pure (v':=.ro 10 (x934.L.map qj.c)) rfl rfl rfl (core_loaT (c:=qk.c) (L:=n0x.T) (x:=x934) rfl hx934 rfl) rfl ?_
     generalize hc106:F56 c66.L x934.L (fun y0 y1=>F57 y0 y1) = c106 at gg31
     try dsimp only at gg31
     refine RD.callp (r:=.bool c106) rfl rfl rfl (f56_ok c66.L x934.L 57 [] [] (fun y0 y1=>F57 y0 y1) ⟨rfl,rfl⟩ (fun y0 y1 _ hr=>f57_ok y0 y1 _ hr) _ hc106) rfl rfl (RD.q (.bool (!c106)) (RD.done rfl ?_))
     rcases qq (c106) with hb40 | hb40
     ·rw [hb40]; try simp only [hb40,bb] at gg31
      refine WK.condT rfl (WK.seq (WK.drawn qv (RD.m rfl (RD.q (.ptr 0 0) (RD.q (.ptr 0 0) (RD.q (.own 4 1 0 n0x.T.length) (RD.q (.ptr 8 1) (RD.q (.int .i64 x49.To) (RD.q (.agg (qk.c c66)) (RD.pure (v':=.eptr 4 1 x49.To.toNat 0) rfl rfl rfl (core_idxoT (c:=qk.c) (L:=n0x.T) (j:=x49.To.toNat) rfl hx934j hx934l (by exact Nat.le_refl _)) rfl (RD.step0 (zj:=[(0,.box [.own 4 1 0 n0x.T.length,.own 5 1 0 n0x.Sel.length,.ro 3 (n0x.L.map zz.c),.own 6 3 0 n0x.Work.length,.bool n0x.Over]),(4,.row 1 36 ((n0x.T.set x49.To.toNat c66).map qk.c)),(5,.row 1 34 (n0x.Sel.map (wq 10 qj.c))),(6,.row 3 108 (n0x.Work.map zw.c)),(7,.box (qj.c c24.1)),(8,.box (zz.c x49)),(9,.box (qk.c c66)),(10,.box (qj.c c70.1))]) (zk:=11) rfl rfl (core_stoT (c:=qk.c) (L:=n0x.T) (x:=x934) (x':=c66) rfl hx934 rfl rfl rfl rfl rfl) rfl rfl (RD.done rfl (WK.regx qv ?_)))))))))))))
      refine GX.m rfl (GX.q (.ptr 8 1) (GX.q (.int .i64 x49.To) (GX.q (.agg (zy.c p2)) ?_)))
      rcases wy gg31 with ⟨_,gg31⟩ | ⟨c120,hc120,gg31⟩
      ·subst gg31
       first | replace hR:=wz hR | replace hR:=oexc_n hR
       cases hR
      try dsimp only at gg31
      try dsimp only at gg31
      refine GX.callx (r':=.tup []) (zj:=[(0,.box [.own 11 1 0 c120.T.length,.own 12 1 0 c120.Sel.length,.ro 3 (c120.L.map zz.c),.own 13 3 0 c120.Work.length,.bool c120.Over]),(7,.box (qj.c c24.1)),(8,.box (zz.c x49)),(9,.box (qk.c c66)),(10,.box (qj.c c70.1)),(13,.row 3 108 (c120.Work.map zw.c)),(12,.row 1 34 (c120.Sel.map (wq 10 qj.c))),(11,.row 1 36 (c120.T.map qk.c))]) (zk:=14) [0,4,5,6] [] rfl rfl rfl rfl rfl rfl (by have hst:=(f68_ok (⟨(n0x.T.set x49.To.toNat c66),n0x.Sel,n0x.L,n0x.Work,n0x.Over⟩ : TNet) x49.To p2 _ hc120); simp only [List.length_set] at hst; exact hst) (.inl rfl) rfl rfl rfl (GX.done ?_)
      refine WK.nil (QF.normal (hK33 _ ?_))
      refine WK.regx qv (GX.pure (v':=.int .i64 ((i49 + 1:Nat):Int)) rfl rfl rfl rfl (congrArg (PVal.int .i64) (wrap_up hlt31 ge31)) (GX.m rfl (GX.done ?_)))
      refine WK.nil (QF.normal ?_)
      refine ga31 _ (n0.L.length - (i49 + 1)) _ (by omega) ?_ ⟨i49 + 1,false,c120,(by omega),rfl,gg31,rfl⟩
      exact Conv.keepR [0,1,2,3,11,12,13,7] [] [0,4,5,6,7,47,48,49] rfl rfl (qx rfl rfl (qx rfl rfl (qx rfl rfl (qx rfl rfl (qx rfl rfl (qx rfl rfl (qx rfl rfl (qx rfl rfl qy)))))))) rfl rfl
     ·rw [hb40]; try simp only [hb40,bb] at gg31
      refine WK.condF rfl (WK.skip ?_)
      refine WK.nil (QF.normal (hK33 _ ?_))
      refine WK.regx qv (GX.pure (v':=.int .i64 ((i49 + 1:Nat):Int)) rfl rfl rfl rfl (congrArg (PVal.int .i64) (wrap_up hlt31 ge31)) (GX.m rfl (GX.done ?_)))
      refine WK.nil (QF.normal ?_)
      refine ga31 _ (n0.L.length - (i49 + 1)) _ (by omega) ?_ ⟨i49 + 1,false,n0x,(by omega),rfl,gg31,rfl⟩
      exact Conv.keepR [0,1,2,3,4,5,6,7] [] [0,4,5,6,7,47,48,49] rfl rfl (qx rfl rfl (qx rfl rfl (qx rfl rfl (qx rfl rfl (qx rfl rfl (qx rfl rfl (qx rfl rfl (qx rfl rfl qy)))))))) rfl rfl
    ·rw [hb39]; try simp only [hb39,bb] at gg31
     refine WK.condT rfl (WK.sr qv (GX.q (.agg (qk.c c66)) (GX.q (.agg (qj.c c70.1)) ?_)))
     rcases wy gg31 with ⟨_,gg31⟩ | ⟨c80,hc80,gg31⟩
     ·subst gg31
      first | replace hR:=wz hR | replace hR:=oexc_n hR
      cases hR
     try dsimp only at gg31
     refine GX.callp (r:=.tup [.agg [.ro 10 (c80.1.L.map qj.c)],.int .i64 c80.2]) rfl rfl rfl (f48_ok c66 c70.1 _ hc80) rfl rfl (GX.m rfl (GX.q (.agg [.ro 10 (c80.1.L.map qj.c)]) (GX.q (.int .i64 c80.2) (GX.step (v':=.ptr 11 0) (zj:=[(0,.box [.own 4 1 0 n0x.T.length,.own 5 1 0 n0x.Sel.length,.ro 3 (n0x.L.map zz.c),.own 6 3 0 n0x.Work.length,.bool n0x.Over]),(4,.row 1 36 (n0x.T.map qk.c)),(5,.row 1 34 (n0x.Sel.map (wq 10 qj.c))),(6,.row 3 108 (n0x.Work.map zw.c)),(7,.box (qj.c c24.1)),(8,.box (zz.c x49)),(9,.box (qk.c c66)),(10,.box (qj.c c70.1)),(11,.box [.nils])]) (zk:=12) rfl rfl rfl rfl rfl rfl rfl (GX.step0 (zj:=[(0,.box [.own 4 1 0 n0x.T.length,.own 5 1 0 n0x.Sel.length,.ro 3 (n0x.L.map zz.c),.own 6 3 0 n0x.Work.length,.bool n0x.Over]),(4,.row 1 36 (n0x.T.map qk.c)),(5,.row 1 34 (n0x.Sel.map (wq 10 qj.c))),(6,.row 3 108 (n0x.Work.map zw.c)),(7,.box (qj.c c24.1)),(8,.box (zz.c x49)),(9,.box (qk.c c66)),(10,.box (qj.c c70.1)),(11,.box (qk.c c80.1))]) (zk:=12) rfl rfl rfl rfl rfl (GX.m rfl (GX.done (WK.drawn qv (RD.m rfl (RD.q (.agg (qk.c c80.1)) (RD.m rfl (RD.q (.ptr 0 0) (RD.q (.ptr 0 4) ?_)))))))))))))
     refine RD.q (.bool n0x.Over) (RD.m rfl ?_)
     rcases qq (n0x.Over) with hb42 | hb42
     ·rw [hb42]; try simp only [hb42,bb] at gg31
      refine RD.m rfl (RD.q (.bool (!decide (c80.2 = 0))) (RD.q (.bool (!decide (c80.2 = 0))) (RD.step0 (zj:=[(0,.box [.own 4 1 0 n0x.T.length,.own 5 1 0 n0x.Sel.length,.ro 3 (n0x.L.map zz.c),.own 6 3 0 n0x.Work.length,.bool false]),(4,.row 1 36 (n0x.T.map qk.c)),(5,.row 1 34 (n0x.Sel.map (wq 10 qj.c))),(6,.row 3 108 (n0x.Work.map zw.c)),(7,.box (qj.c c24.1)),(8,.box (zz.c x49)),(9,.box (qk.c c80.1)),(10,.box (qj.c c70.1)),(11,.box (qk.c c80.1))]) (zk:=12) rfl rfl rfl rfl rfl (RD.q (.ptr 0 0) (RD.q (.ptr 0 4) (RD.step0 (zj:=[(0,.box [.own 4 1 0 n0x.T.length,.own 5 1 0 n0x.Sel.length,.ro 3 (n0x.L.map zz.c),.own 6 3 0 n0x.Work.length,.bool (!decide (c80.2 = 0))]),(4,.row 1 36 (n0x.T.map qk.c)),(5,.row 1 34 (n0x.Sel.map (wq 10 qj.c))),(6,.row 3 108 (n0x.Work.map zw.c)),(7,.box (qj.c c24.1)),(8,.box (zz.c x49)),(9,.box (qk.c c80.1)),(10,.box (qj.c c70.1)),(11,.box (qk.c c80.1))]) (zk:=12) rfl rfl rfl rfl rfl (RD.done rfl (WK.seq (WK.drawn qv (RD.q (.ptr 9 0) (RD.q (.ro 10 (c80.1.L.map qj.c)) (RD.m rfl (RD.q (.ptr 0 0) (RD.q (.ptr 0 0) ?_))))))))))))))
      refine RD.q (.own 4 1 0 n0x.T.length) (RD.q (.ptr 8 1) (RD.q (.int .i64 x49.To) (RD.pure (v':=.eptr 4 1 x49.To.toNat 0) rfl rfl rfl (core_idxoT (c:=qk.c) (L:=n0x.T) (j:=x49.To.toNat) rfl hx934j hx934l (by exact Nat.le_refl _)) rfl (RD.pure (v':=.eptr 4 1 x49.To.toNat 0) rfl rfl rfl (core_fldT (c:=qk.c) (L:=n0x.T) rfl (by omega) rfl) rfl (RD.pure (v':=.ro 10 (x934.L.map qj.c)) rfl rfl rfl (core_loaT (c:=qk.c) (L:=n0x.T) (x:=x934) rfl hx934 rfl) rfl ?_)))))
      generalize hc106:F56 c80.1.L x934.L (fun y0 y1=>F57 y0 y1) = c106 at gg31
      try dsimp only at gg31
      refine RD.callp (r:=.bool c106) rfl rfl rfl (f56_ok c80.1.L x934.L 57 [] [] (fun y0 y1=>F57 y0 y1) ⟨rfl,rfl⟩ (fun y0 y1 _ hr=>f57_ok y0 y1 _ hr) _ hc106) rfl rfl (RD.q (.bool (!c106)) (RD.done rfl ?_))
      rcases qq (c106) with hb43 | hb43
      ·rw [hb43]; try simp only [hb43,bb] at gg31
       refine WK.condT rfl (WK.seq (WK.drawn qv (RD.m rfl (RD.q (.ptr 0 0) (RD.q (.ptr 0 0) (RD.q (.own 4 1 0 n0x.T.length) (RD.q (.ptr 8 1) (RD.q (.int .i64 x49.To) (RD.q (.agg (qk.c c80.1)) (RD.pure (v':=.eptr 4 1 x49.To.toNat 0) rfl rfl rfl (core_idxoT (c:=qk.c) (L:=n0x.T) (j:=x49.To.toNat) rfl hx934j hx934l (by exact Nat.le_refl _)) rfl (RD.step0 (zj:=[(0,.box [.own 4 1 0 n0x.T.length,.own 5 1 0 n0x.Sel.length,.ro 3 (n0x.L.map zz.c),.own 6 3 0 n0x.Work.length,.bool (!decide (c80.2 = 0))]),(4,.row 1 36 ((n0x.T.set x49.To.toNat c80.1).map qk.c)),(5,.row 1 34 (n0x.Sel.map (wq 10 qj.c))),(6,.row 3 108 (n0x.Work.map zw.c)),(7,.box (qj.c c24.1)),(8,.box (zz.c x49)),(9,.box (qk.c c80.1)),(10,.box (qj.c c70.1)),(11,.box (qk.c c80.1))]) (zk:=12) rfl rfl (core_stoT (c:=qk.c) (L:=n0x.T) (x:=x934) (x':=c80.1) rfl hx934 rfl rfl rfl rfl rfl) rfl rfl (RD.done rfl (WK.regx qv ?_)))))))))))))
       refine GX.m rfl (GX.q (.ptr 8 1) (GX.q (.int .i64 x49.To) (GX.q (.agg (zy.c p2)) ?_)))
       rcases wy gg31 with ⟨_,gg31⟩ | ⟨c120,hc120,gg31⟩
       ·subst gg31
        first | replace hR:=wz hR | replace hR:=oexc_n hR
        cases hR
       try dsimp only at gg31
       try dsimp only at gg31
       refine GX.callx (r':=.tup []) (zj:=[(0,.box [.own 12 1 0 c120.T.length,.own 13 1 0 c120.Sel.length,.ro 3 (c120.L.map zz.c),.own 14 3 0 c120.Work.length,.bool c120.Over]),(7,.box (qj.c c24.1)),(8,.box (zz.c x49)),(9,.box (qk.c c80.1)),(10,.box (qj.c c70.1)),(11,.box (qk.c c80.1)),(14,.row 3 108 (c120.Work.map zw.c)),(13,.row 1 34 (c120.Sel.map (wq 10 qj.c))),(12,.row 1 36 (c120.T.map qk.c))]) (zk:=15) [0,4,5,6] [] rfl rfl rfl rfl rfl rfl (by have hst:=(f68_ok (⟨(n0x.T.set x49.To.toNat c80.1),n0x.Sel,n0x.L,n0x.Work,!decide (c80.2 = 0)⟩ : TNet) x49.To p2 _ hc120); simp only [List.length_set] at hst; exact hst) (.inl rfl) rfl rfl rfl (GX.done ?_)
       refine WK.nil (QF.normal (hK33 _ ?_))
       refine WK.regx qv (GX.pure (v':=.int .i64 ((i49 + 1:Nat):Int)) rfl rfl rfl rfl (congrArg (PVal.int .i64) (wrap_up hlt31 ge31)) (GX.m rfl (GX.done ?_)))
       refine WK.nil (QF.normal ?_)
       refine ga31 _ (n0.L.length - (i49 + 1)) _ (by omega) ?_ ⟨i49 + 1,true,c120,(by omega),rfl,gg31,rfl⟩
       exact Conv.keepR [0,1,2,3,12,13,14,7] [] [0,4,5,6,7,47,48,49] rfl rfl (qx rfl rfl (qx rfl rfl (qx rfl rfl (qx rfl rfl (qx rfl rfl (qx rfl rfl (qx rfl rfl (qx rfl rfl qy)))))))) rfl rfl
      ·rw [hb43]; try simp only [hb43,bb] at gg31
       refine WK.condF rfl (WK.skip ?_)
       refine WK.nil (QF.normal (hK33 _ ?_))
       refine WK.regx qv (GX.pure (v':=.int .i64 ((i49 + 1:Nat):Int)) rfl rfl rfl rfl (congrArg (PVal.int .i64) (wrap_up hlt31 ge31)) (GX.m rfl (GX.done ?_)))
       refine WK.nil (QF.normal ?_)
       refine ga31 _ (n0.L.length - (i49 + 1)) _ (by omega) ?_ ⟨i49 + 1,true,(⟨n0x.T,n0x.Sel,n0x.L,n0x.Work,!decide (c80.2 = 0)⟩ : TNet),(by omega),rfl,gg31,rfl⟩
       exact Conv.keepR [0,1,2,3,4,5,6,7] [] [0,4,5,6,7,47,48,49] rfl rfl (qx rfl rfl (qx rfl rfl (qx rfl rfl (qx rfl rfl (qx rfl rfl (qx rfl rfl (qx rfl rfl (qx rfl rfl qy)))))))) rfl rfl
     ·rw [hb42]; try simp only [hb42,bb] at gg31
      refine RD.skip rfl rfl (RD.skip rfl rfl (RD.q (.bool true) (RD.step0 (zj:=[(0,.box [.own 4 1 0 n0x.T.length,.own 5 1 0 n0x.Sel.length,.ro 3 (n0x.L.map zz.c),.own 6 3 0 n0x.Work.length,.bool true]),(4,.row 1 36 (n0x.T.map qk.c)),(5,.row 1 34 (n0x.Sel.map (wq 10 qj.c))),(6,.row 3 108 (n0x.Work.map zw.c)),(7,.box (qj.c c24.1)),(8,.box (zz.c x49)),(9,.box (qk.c c80.1)),(10,.box (qj.c c70.1)),(11,.box (qk.c c80.1))]) (zk:=12) rfl rfl rfl rfl rfl (RD.q (.ptr 0 0) (RD.q (.ptr 0 4) (RD.step0 (zj:=[(0,.box [.own 4 1 0 n0x.T.length,.own 5 1 0 n0x.Sel.length,.ro 3 (n0x.L.map zz.c),.own 6 3 0 n0x.Work.length,.bool true]),(4,.row 1 36 (n0x.T.map qk.c)),(5,.row 1 34 (n0x.Sel.map (wq 10 qj.c))),(6,.row 3 108 (n0x.Work.map zw.c)),(7,.box (qj.c c24.1)),(8,.box (zz.c x49)),(9,.box (qk.c c80.1)),(10,.box (qj.c c70.1)),(11,.box (qk.c c80.1))]) (zk:=12) rfl rfl rfl rfl rfl (RD.done rfl (WK.seq (WK.drawn qv (RD.q (.ptr 9 0) (RD.q (.ro 10 (c80.1.L.map qj.c)) (RD.m rfl (RD.q (.ptr 0 0) (RD.q (.ptr 0 0) ?_))))))))))))))
      refine RD.q (.own 4 1 0 n0x.T.length) (RD.q (.ptr 8 1) (RD.q (.int .i64 x49.To) (RD.pure (v':=.eptr 4 1 x49.To.toNat 0) rfl rfl rfl (core_idxoT (c:=qk.c) (L:=n0x.T) (j:=x49.To.toNat) rfl hx934j hx934l (by exact Nat.le_refl _)) rfl (RD.pure (v':=.eptr 4 1 x49.To.toNat 0) rfl rfl rfl (core_fldT (c:=qk.c) (L:=n0x.T) rfl (by omega) rfl) rfl (RD.pure (v':=.ro 10 (x934.L.map qj.c)) rfl rfl rfl (core_loaT (c:=qk.c) (L:=n0x.T) (x:=x934) rfl hx934 rfl) rfl ?_)))))
      generalize hc106:F56 c80.1.L x934.L (fun y0 y1=>F57 y0 y1) = c106 at gg31
      try dsimp only at gg31
      refine RD.callp (r:=.bool c106) rfl rfl rfl (f56_ok c80.1.L x934.L 57 [] [] (fun y0 y1=>F57 y0 y1) ⟨rfl,rfl⟩ (fun y0 y1 _ hr=>f57_ok y0 y1 _ hr) _ hc106) rfl rfl (RD.q (.bool (!c106)) (RD.done rfl ?_))
      rcases qq (c106) with hb45 | hb45
      ·rw [hb45]; try simp only [hb45,bb] at gg31
       refine WK.condT rfl (WK.seq (WK.drawn qv (RD.m rfl (RD.q (.ptr 0 0) (RD.q (.ptr 0 0) (RD.q (.own 4 1 0 n0x.T.length) (RD.q (.ptr 8 1) (RD.q (.int .i64 x49.To) (RD.q (.agg (qk.c c80.1)) (RD.pure (v':=.eptr 4 1 x49.To.toNat 0) rfl rfl rfl (core_idxoT (c:=qk.c) (L:=n0x.T) (j:=x49.To.toNat) rfl hx934j hx934l (by exact Nat.le_refl _)) rfl (RD.step0 (zj:=[(0,.box [.own 4 1 0 n0x.T.length,.own 5 1 0 n0x.Sel.length,.ro 3 (n0x.L.map zz.c),.own 6 3 0 n0x.Work.length,.bool true]),(4,.row 1 36 ((n0x.T.set x49.To.toNat c80.1).map qk.c)),(5,.row 1 34 (n0x.Sel.map (wq 10 qj.c))),(6,.row 3 108 (n0x.Work.map zw.c)),(7,.box (qj.c c24.1)),(8,.box (zz.c x49)),(9,.box (qk.c c80.1)),(10,.box (qj.c c70.1)),(11,.box (qk.c c80.1))]) (zk:=12) rfl rfl (core_stoT (c:=qk.c) (L:=n0x.T) (x:=x934) (x':=c80.1) rfl hx934 rfl rfl rfl rfl rfl) rfl rfl (RD.done rfl (WK.regx qv ?_)))))))))))))
       refine GX.m rfl (GX.q (.ptr 8 1) (GX.q (.int .i64 x49.To) (GX.q (.agg (zy.c p2)) ?_)))
       rcases wy gg31 with ⟨_,gg31⟩ | ⟨c120,hc120,gg31⟩
       ·subst gg31
        first | replace hR:=wz hR | replace hR:=oexc_n hR
        cases hR
       try dsimp only at gg31
       try dsimp only at gg31
       refine GX.callx (r':=.tup []) (zj:=[(0,.box [.own 12 1 0 c120.T.length,.own 13 1 0 c120.Sel.length,.ro 3 (c120.L.map zz.c),.own 14 3 0 c120.Work.length,.bool c120.Over]),(7,.box (qj.c c24.1)),(8,.box (zz.c x49)),(9,.box (qk.c c80.1)),(10,.box (qj.c c70.1)),(11,.box (qk.c c80.1)),(14,.row 3 108 (c120.Work.map zw.c)),(13,.row 1 34 (c120.Sel.map (wq 10 qj.c))),(12,.row 1 36 (c120.T.map qk.c))]) (zk:=15) [0,4,5,6] [] rfl rfl rfl rfl rfl rfl (by have hst:=(f68_ok (⟨(n0x.T.set x49.To.toNat c80.1),n0x.Sel,n0x.L,n0x.Work,true⟩ : TNet) x49.To p2 _ hc120); simp only [List.length_set] at hst; exact hst) (.inl rfl) rfl rfl rfl (GX.done ?_)
       refine WK.nil (QF.normal (hK33 _ ?_))
       refine WK.regx qv (GX.pure (v':=.int .i64 ((i49 + 1:Nat):Int)) rfl rfl rfl rfl (congrArg (PVal.int .i64) (wrap_up hlt31 ge31)) (GX.m rfl (GX.done ?_)))
       refine WK.nil (QF.normal ?_)
       refine ga31 _ (n0.L.length - (i49 + 1)) _ (by omega) ?_ ⟨i49 + 1,true,c120,(by omega),rfl,gg31,rfl⟩
       exact Conv.keepR [0,1,2,3,12,13,14,7] [] [0,4,5,6,7,47,48,49] rfl rfl (qx rfl rfl (qx rfl rfl (qx rfl rfl (qx rfl rfl (qx rfl rfl (qx rfl rfl (qx rfl rfl (qx rfl rfl qy)))))))) rfl rfl
      ·rw [hb45]; try simp only [hb45,bb] at gg31
       refine WK.condF rfl (WK.skip ?_)
       refine WK.nil (QF.normal (hK33 _ ?_))
       refine WK.regx qv (GX.pure (v':=.int .i64 ((i49 + 1:Nat):Int)) rfl rfl rfl rfl (congrArg (PVal.int .i64) (wrap_up hlt31 ge31)) (GX.m rfl (GX.done ?_)))
       refine WK.nil (QF.normal ?_)
       refine ga31 _ (n0.L.length - (i49 + 1)) _ (by omega) ?_ ⟨i49 + 1,true,(⟨n0x.T,n0x.Sel,n0x.L,n0x.Work,true⟩ : TNet),(by omega),rfl,gg31,rfl⟩
       exact Conv.keepR [0,1,2,3,4,5,6,7] [] [0,4,5,6,7,47,48,49] rfl rfl (qx rfl rfl (qx rfl rfl (qx rfl rfl (qx rfl rfl (qx rfl rfl (qx rfl rfl (qx rfl rfl (qx rfl rfl qy)))))))) rfl rfl
theorem f28_ok (n0:TNet) (i1:Int) (R:TNet × Bool) (hR:F28 n0 i1 = some R):FnOk Tryz.prog 28 [.agg (TNet.c n0),.int .i64 i1] [] 0 (.tup [.agg (TNet.c R.1),.bool R.2]) [] 0:=by
 refine FnOk.wk i28 rfl rfl ?_
 unfold F28 at hR
 try dsimp only at hR
 change WK _ _ _ [ac28] _ ⟨[(0,.agg (TNet.c n0)),(1,.int .i64 i1)],[],0⟩
 unfold ac28
 refine WK.sr qv (GX.step (v':=.ptr 0 0) (zj:=[(0,.box (TNet.c n0))]) (zk:=1) rfl rfl rfl rfl rfl rfl rfl (GX.step (v':=.ptr 1 0) (zj:=[(0,.box (TNet.c n0)),(1,.box [.nils,.nils,.nils,.nils,.bool false])]) (zk:=2) rfl rfl rfl rfl rfl rfl rfl (GX.m rfl (GX.done (WK.seq (WK.sr qv (GX.q (.ptr 0 3) (GX.q (.ro 3 (n0.Work.map zw.c)) (GX.pure (v':=.int .i64 (n0.Work.length:Int)) rfl rfl rfl rfl (ww _ _) (GX.q (.bool (decide ((n0.Work.length:Int) = 0))) (GX.done ?_)))))))))))
 rcases qq (decide ((n0.Work.length:Int) = 0)) with hb1 | hb1
 ·rw [hb1]; first | replace hR:=kz hb1 hR | (try simp only [hb1,bb] at hR)
  refine WK.condF rfl (WK.skip (WK.sr qv (GX.q (.agg (TNet.c n0)) ?_)))
  obtain ⟨c15,hc15,hR⟩:=wx hR; try dsimp only at hR
  try dsimp only at hR
  refine GX.callx (r':=.ptr 2 0) (zj:=[(0,.box (TNet.c n0)),(1,.box [.nils,.nils,.nils,.nils,.bool false]),(6,.row 3 108 (c15.Work.map zw.c)),(5,.row 3 84 (c15.L.map zz.c)),(4,.row 1 34 (c15.Sel.map (wq 10 qj.c))),(3,.row 1 36 (c15.T.map qk.c)),(2,.box [.own 3 1 0 c15.T.length,.own 4 1 0 c15.Sel.length,.own 5 3 0 c15.L.length,.own 6 3 0 c15.Work.length,.bool c15.Over])]) (zk:=7) [] [] rfl rfl rfl rfl rfl rfl (f41_ok n0 _ hc15) (.inl rfl) rfl rfl rfl (GX.m rfl (GX.done (WK.sr qv (GX.m rfl (GX.q (.int .i64 (max_ i1 0)) (GX.m rfl (GX.q (.ptr 2 0) (GX.q (.ptr 2 3) (GX.q (.own 6 3 0 c15.Work.length) (GX.q (.int .i64 (c15.Work.length:Int)) ?_))))))))))
  rcases qq (decide ((c15.Work.length:Int) ≠ 0)) with hg3 | hg3
  ·replace hR:=kz hg3 hR
   cases hR
  replace hR:=ky hg3 hR; try dsimp only at hR
  have hg3_:=of_decide_eq_true hg3
  refine GX.pure (v':=.int .i64 (Int.tmod (max_ i1 0) (c15.Work.length:Int))) rfl rfl rfl (core_remT (by omega)) rfl (GX.m rfl (GX.done (WK.sr qv (GX.m rfl (GX.q (.ptr 2 0) (GX.q (.ptr 2 3) (GX.q (.own 6 3 0 c15.Work.length) (GX.m rfl ?_))))))))
  obtain ⟨x903,hx903,hR⟩:=wx hR; try dsimp only at hR
  obtain ⟨hx9030,hx903j,hx903l,hx903⟩:=kx hx903
  refine GX.pure (v':=.eptr 6 3 ((Int.tmod (max_ i1 0) (c15.Work.length:Int)).toNat) 0) rfl rfl rfl (core_idxoT (c:=zw.c) (L:=c15.Work) (j:=(Int.tmod (max_ i1 0) (c15.Work.length:Int)).toNat) rfl hx903j hx903l (by exact Nat.le_refl _)) rfl (GX.pure (v':=.agg (zw.c x903)) rfl rfl rfl (core_loaT (c:=zw.c) (L:=c15.Work) (x:=x903) rfl hx903 rfl) rfl (GX.step (v':=.ptr 7 0) (zj:=[(0,.box (TNet.c n0)),(1,.box [.nils,.nils,.nils,.nils,.bool false]),(6,.row 3 108 (c15.Work.map zw.c)),(5,.row 3 84 (c15.L.map zz.c)),(4,.row 1 34 (c15.Sel.map (wq 10 qj.c))),(3,.row 1 36 (c15.T.map qk.c)),(2,.box [.own 3 1 0 c15.T.length,.own 4 1 0 c15.Sel.length,.own 5 3 0 c15.L.length,.own 6 3 0 c15.Work.length,.bool c15.Over]),(7,.box [.int .i64 0,.int .u32 0,.int .i64 0])]) (zk:=8) rfl rfl rfl rfl rfl rfl rfl (GX.step0 (zj:=[(0,.box (TNet.c n0)),(1,.box [.nils,.nils,.nils,.nils,.bool false]),(6,.row 3 108 (c15.Work.map zw.c)),(5,.row 3 84 (c15.L.map zz.c)),(4,.row 1 34 (c15.Sel.map (wq 10 qj.c))),(3,.row 1 36 (c15.T.map qk.c)),(2,.box [.own 3 1 0 c15.T.length,.own 4 1 0 c15.Sel.length,.own 5 3 0 c15.L.length,.own 6 3 0 c15.Work.length,.bool c15.Over]),(7,.box (zw.c x903))]) (zk:=8) rfl rfl rfl rfl rfl (GX.done (WK.sr qv (GX.m rfl (GX.m rfl (GX.q (.ptr 2 0) (GX.q (.ptr 2 3) (GX.q (.own 6 3 0 c15.Work.length) (GX.m rfl (GX.m rfl (GX.q (.int .i64 (IntKind.i64.wrap ((Int.tmod (max_ i1 0) (c15.Work.length:Int)) + 1))) ?_)))))))))))))
  rcases qq (decide ((0:Int) ≤ (Int.tmod (max_ i1 0) (c15.Work.length:Int)))) with hg5 | hg5
  ·replace hR:=kz hg5 hR
   cases hR
  replace hR:=ky hg5 hR; try dsimp only at hR
  have hg5_:=of_decide_eq_true hg5
  rcases qq (decide ((Int.tmod (max_ i1 0) (c15.Work.length:Int)) ≤ IntKind.i64.wrap ((Int.tmod (max_ i1 0) (c15.Work.length:Int)) + 1))) with hg6 | hg6
  ·replace hR:=kz hg6 hR
   cases hR
  replace hR:=ky hg6 hR; try dsimp only at hR
  have hg6_:=of_decide_eq_true hg6
  rcases qq (decide (IntKind.i64.wrap ((Int.tmod (max_ i1 0) (c15.Work.length:Int)) + 1) ≤ (c15.Work.length:Int))) with hg7 | hg7
  ·replace hR:=kz hg7 hR
   cases hR
  replace hR:=ky hg7 hR; try dsimp only at hR
  have hg7_:=of_decide_eq_true hg7
  rcases qq (decide (c15.Work.length < 1099511627776)) with hg8 | hg8
  ·replace hR:=kz hg8 hR
   cases hR
  replace hR:=ky hg8 hR; try dsimp only at hR
  have hg8_:=of_decide_eq_true hg8
  refine GX.callx (r':=.own 8 3 0 (del_ c15.Work (Int.tmod (max_ i1 0) (c15.Work.length:Int)) (IntKind.i64.wrap ((Int.tmod (max_ i1 0) (c15.Work.length:Int)) + 1))).length) (zj:=[(0,.box (TNet.c n0)),(1,.box [.nils,.nils,.nils,.nils,.bool false]),(5,.row 3 84 (c15.L.map zz.c)),(4,.row 1 34 (c15.Sel.map (wq 10 qj.c))),(3,.row 1 36 (c15.T.map qk.c)),(2,.box [.own 3 1 0 c15.T.length,.own 4 1 0 c15.Sel.length,.own 5 3 0 c15.L.length,.own 6 3 0 c15.Work.length,.bool c15.Over]),(7,.box (zw.c x903)),(8,.row 3 108 ((del_ c15.Work (Int.tmod (max_ i1 0) (c15.Work.length:Int)) (IntKind.i64.wrap ((Int.tmod (max_ i1 0) (c15.Work.length:Int)) + 1))).map zw.c))]) (zk:=9) [6] [] rfl rfl rfl rfl rfl rfl (delete_okT (c:=zw.c) (fun _=>rfl) qv i70 c15.Work (Int.tmod (max_ i1 0) (c15.Work.length:Int)) (IntKind.i64.wrap ((Int.tmod (max_ i1 0) (c15.Work.length:Int)) + 1)) rfl (by omega) (by omega) (by omega) (by omega)) (.inl rfl) rfl rfl rfl (GX.q (.ptr 2 0) (GX.q (.ptr 2 3) (GX.step0 (zj:=[(0,.box (TNet.c n0)),(1,.box [.nils,.nils,.nils,.nils,.bool false]),(5,.row 3 84 (c15.L.map zz.c)),(4,.row 1 34 (c15.Sel.map (wq 10 qj.c))),(3,.row 1 36 (c15.T.map qk.c)),(2,.box [.own 3 1 0 c15.T.length,.own 4 1 0 c15.Sel.length,.own 5 3 0 c15.L.length,.own 8 3 0 (del_ c15.Work (Int.tmod (max_ i1 0) (c15.Work.length:Int)) (IntKind.i64.wrap ((Int.tmod (max_ i1 0) (c15.Work.length:Int)) + 1))).length,.bool c15.Over]),(7,.box (zw.c x903)),(8,.row 3 108 ((del_ c15.Work (Int.tmod (max_ i1 0) (c15.Work.length:Int)) (IntKind.i64.wrap ((Int.tmod (max_ i1 0) (c15.Work.length:Int)) + 1))).map zw.c))]) (zk:=9) rfl rfl rfl rfl rfl (GX.done (WK.seq ?_)))))
  refine WK.conv (st':=⟨[(4,.ptr 0 0),(6,.ptr 1 0),(8,.ptr 5 0)],[(0,.box [.nils,.nils,.nils,.nils,.bool false]),(1,.box [.own 2 1 0 c15.T.length,.own 3 1 0 c15.Sel.length,.ro 3 (c15.L.map zz.c),.own 4 3 0 (del_ c15.Work (Int.tmod (max_ i1 0) (c15.Work.length:Int)) (IntKind.i64.wrap ((Int.tmod (max_ i1 0) (c15.Work.length:Int)) + 1))).length,.bool c15.Over]),(2,.row 1 36 (c15.T.map qk.c)),(3,.row 1 34 (c15.Sel.map (wq 10 qj.c))),(4,.row 3 108 ((del_ c15.Work (Int.tmod (max_ i1 0) (c15.Work.length:Int)) (IntKind.i64.wrap ((Int.tmod (max_ i1 0) (c15.Work.length:Int)) + 1))).map zw.c)),(5,.box (zw.c x903))],6⟩) (Conv.keep [1,2,3,4,8,7] [5] [4,6,8] rfl rfl (qx rfl rfl (qx rfl rfl (qx rfl rfl qy))) (wv rfl rfl (wv rfl (viewO_box (qz rfl (qz rfl (qz (view_rowT rfl rfl) (qz rfl (qz rfl qw)))))) (wv rfl rfl (wv rfl rfl (wv rfl rfl (wv rfl rfl subH_nil)))))) rfl) ?_ (by simp)
  refine WK.regx qv (GX.m rfl (GX.q (.ptr 5 0) (GX.q (.int .i64 x903.At) (GX.q (.ptr 5 1) (GX.q (.agg (zy.c x903.P)) ?_)))))
  obtain ⟨c47,hc47,hR⟩:=wx hR; try dsimp only at hR
  try dsimp only at hR
  refine GX.callx (r':=.tup []) (zj:=[(0,.box [.nils,.nils,.nils,.nils,.bool false]),(1,.box [.own 6 1 0 c47.T.length,.own 7 1 0 c47.Sel.length,.ro 3 (c47.L.map zz.c),.own 8 3 0 c47.Work.length,.bool c47.Over]),(5,.box (zw.c x903)),(8,.row 3 108 (c47.Work.map zw.c)),(7,.row 1 34 (c47.Sel.map (wq 10 qj.c))),(6,.row 1 36 (c47.T.map qk.c))]) (zk:=9) [1,2,3,4] [] rfl rfl rfl rfl rfl rfl (f71_ok (⟨c15.T,c15.Sel,c15.L,(del_ c15.Work (Int.tmod (max_ i1 0) (c15.Work.length:Int)) (IntKind.i64.wrap ((Int.tmod (max_ i1 0) (c15.Work.length:Int)) + 1))),c15.Over⟩ : TNet) x903.At x903.P _ hc47) (.inl rfl) rfl rfl rfl (GX.done (WK.sr qv (GX.m rfl (GX.q (.ptr 1 0) (GX.q (.agg [.own 6 1 0 c47.T.length,.own 7 1 0 c47.Sel.length,.ro 3 (c47.L.map zz.c),.own 8 3 0 c47.Work.length,.bool c47.Over]) (GX.step0 (zj:=[(0,.box [.own 6 1 0 c47.T.length,.own 7 1 0 c47.Sel.length,.ro 3 (c47.L.map zz.c),.own 8 3 0 c47.Work.length,.bool c47.Over]),(1,.box [.own 6 1 0 c47.T.length,.own 7 1 0 c47.Sel.length,.ro 3 (c47.L.map zz.c),.own 8 3 0 c47.Work.length,.bool c47.Over]),(5,.box (zw.c x903)),(8,.row 3 108 (c47.Work.map zw.c)),(7,.row 1 34 (c47.Sel.map (wq 10 qj.c))),(6,.row 1 36 (c47.T.map qk.c))]) (zk:=9) rfl rfl rfl rfl rfl (GX.m rfl (GX.done (WK.ret ?_)))))))))
  obtain rfl:=Option.some.inj hR
  exact RetQ.fr [6,7,8] (.inr rfl) rfl rfl (qz (viewP_agg (qz (view_rowT rfl rfl) (qz (view_rowT rfl rfl) (qz rfl (qz (view_rowT rfl rfl) (qz rfl qw)))))) (qz rfl qw)) rfl
 ·rw [hb1]; first | replace hR:=ky hb1 hR | (try simp only [hb1,bb] at hR)
  refine WK.condT rfl (WK.sr qv (GX.q (.agg (TNet.c n0)) (GX.step0 (zj:=[(0,.box (TNet.c n0)),(1,.box (TNet.c n0))]) (zk:=2) rfl rfl rfl rfl rfl (GX.m rfl (GX.done (WK.ret ?_))))))
  obtain rfl:=Option.some.inj hR
  exact RetQ.fr [] (.inr rfl) rfl rfl rfl rfl
end Go.Proofs.YtmfggjebbhdejaaGreat.Abs
