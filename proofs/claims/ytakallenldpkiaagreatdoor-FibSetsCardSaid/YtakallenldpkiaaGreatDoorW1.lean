/- The functions walked: each computes its Lean function (printed by this work's own program gen.py). -/
import Derived.Test.YtakallenldpkiaaGreatDoorSb
set_option linter.unusedVariables false
set_option linter.unusedSimpArgs false
set_option maxRecDepth 10000
set_option maxHeartbeats 4000000
namespace Go.Proofs.YtakallenldpkiaaGreatDoor.Abs
open Go
theorem f20_ok  (R:TTrie) (hR:F20 = R):FnOk Tryz.prog 20 [] [] 0 (.ptr 0 0) [(0,.box [.own 1 6 0 R.l.length,.own 2 1 0 R.free.length,.int .i64 R.root,.int .i64 R.n]),(1,.row 6 101 (R.l.map TNode.c)),(2,.row 1 3 (R.free.map c_i64))] 3:=by
 refine FnOk.wk i20 rfl rfl ?_
 unfold F20 at hR
 change WK _ _ _ [ac20] _ ⟨[],[],0⟩
 unfold ac20
 refine WK.sr mixed (GX.m rfl (GX.done (WK.sr mixed (GX.q (.agg [.nils,.nils,.int .i64 (-1),.int .i64 0]) (GX.step (v':=.ptr 0 0) (zx:=[(0,.box [.nils,.nils,.int .i64 (-1),.int .i64 0])]) (zy:=1) rfl rfl rfl rfl rfl rfl rfl (GX.m rfl (GX.done (WK.adoptB (id:=0) (j:=0) (sz:=6) (ty:=101) (zx:=[(0,.box [.own 1 6 0 (([]:List TNode)).length,.nils,.int .i64 (-1),.int .i64 0]),(1,.row 6 101 (([]:List TNode).map TNode.c))]) rfl rfl (by decide) (by simp) rfl (WK.adoptB (id:=0) (j:=1) (sz:=1) (ty:=3) (zx:=[(0,.box [.own 1 6 0 (([]:List TNode)).length,.own 2 1 0 (([]:List Int)).length,.int .i64 (-1),.int .i64 0]),(1,.row 6 101 (([]:List TNode).map TNode.c)),(2,.row 1 3 (([]:List Int).map c_i64))]) rfl rfl (by decide) (by simp) rfl (WK.ret ?_))))))))))
 subst hR
 exact RetQ.ret [0,1,2] [] (.inr rfl) rfl rfl rfl rfl rfl .refl rfl
theorem f5_ok  (R:TFib) (hR:F5 = R):FnOk Tryz.prog 5 [] [] 0 (.ptr 0 0) [(0,.box [.ptr 1 0,.own 4 3 0 R.sets.length,.mapr 5]),(1,.box [.own 2 6 0 R.t.l.length,.own 3 1 0 R.t.free.length,.int .i64 R.t.root,.int .i64 R.t.n]),(2,.row 6 101 (R.t.l.map TNode.c)),(3,.row 1 3 (R.t.free.map c_i64)),(4,.row 3 71 (R.sets.map TGroup.c)),(5,.mq R.atf.1 (R.atf.2.map (encE (fun y=>.int .i64 y))))] 6:=by
 refine FnOk.wk i5 rfl rfl ?_
 unfold F5 at hR
 change WK _ _ _ [ac5] _ ⟨[],[],0⟩
 unfold ac5
 refine WK.sr mixed (GX.m rfl (GX.done (WK.sr mixed ?_)))
 generalize hc1:F20 = c1 at hR
 try dsimp only at hR
 refine GX.callx (r':=.ptr 0 0) (zx:=[(2,.row 1 3 (c1.free.map c_i64)),(1,.row 6 101 (c1.l.map TNode.c)),(0,.box [.own 1 6 0 c1.l.length,.own 2 1 0 c1.free.length,.int .i64 c1.root,.int .i64 c1.n])]) (zy:=3) [] [] rfl rfl rfl rfl rfl rfl (f20_ok  _ hc1) (.inl rfl) rfl rfl rfl (GX.step (v':=.mapr 3) (zx:=[(2,.row 1 3 (c1.free.map c_i64)),(1,.row 6 101 (c1.l.map TNode.c)),(0,.box [.own 1 6 0 c1.l.length,.own 2 1 0 c1.free.length,.int .i64 c1.root,.int .i64 c1.n]),(3,.mq ((0,[]):QMap Int).1 (((0,[]):QMap Int).2.map (encE (fun y=>.int .i64 y))))]) (zy:=4) rfl rfl rfl rfl rfl rfl rfl (GX.q (.agg [.ptr 0 0,.nils,.mapr 3]) (GX.step (v':=.ptr 4 0) (zx:=[(2,.row 1 3 (c1.free.map c_i64)),(1,.row 6 101 (c1.l.map TNode.c)),(0,.box [.own 1 6 0 c1.l.length,.own 2 1 0 c1.free.length,.int .i64 c1.root,.int .i64 c1.n]),(3,.mq ((0,[]):QMap Int).1 (((0,[]):QMap Int).2.map (encE (fun y=>.int .i64 y)))),(4,.box [.ptr 0 0,.nils,.mapr 3])]) (zy:=5) rfl rfl rfl rfl rfl rfl rfl (GX.m rfl (GX.done (WK.adoptB (id:=4) (j:=1) (sz:=3) (ty:=71) (zx:=[(2,.row 1 3 (c1.free.map c_i64)),(1,.row 6 101 (c1.l.map TNode.c)),(0,.box [.own 1 6 0 c1.l.length,.own 2 1 0 c1.free.length,.int .i64 c1.root,.int .i64 c1.n]),(3,.mq ((0,[]):QMap Int).1 (((0,[]):QMap Int).2.map (encE (fun y=>.int .i64 y)))),(4,.box [.ptr 0 0,.own 5 3 0 (([]:List TGroup)).length,.mapr 3]),(5,.row 3 71 (([]:List TGroup).map TGroup.c))]) rfl rfl (by decide) (by simp) rfl (WK.ret ?_)))))))
 subst hR
 exact RetQ.ret [4,0,1,2,5,3] [] (.inr rfl) rfl rfl rfl rfl rfl .refl rfl
theorem f6_ok (a0:TAct) (R:Bool) (hR:F6 a0 = some R):FnOk Tryz.prog 6 [.agg (TAct.c a0)] [] 0 (.bool R) [] 0:=by
 refine FnOk.wk i6 rfl rfl ?_
 unfold F6 at hR
 try dsimp only at hR
 change WK _ _ _ [ac6] _ ⟨[(0,.agg (TAct.c a0))],[],0⟩
 unfold ac6
 refine WK.sr mixed (GX.step (v':=.ptr 0 0) (zx:=[(0,.box (TAct.c a0))]) (zy:=1) rfl rfl rfl rfl rfl rfl rfl (GX.m rfl (GX.done (WK.seq (WK.sr mixed (GX.q (.ptr 0 3) (GX.q (.ro 2 (a0.Hops.map THop.c)) (GX.pure (v':=.int .i64 (a0.Hops.length:Int)) rfl rfl rfl rfl (zj _ _) (GX.q (.bool (decide (20 < (a0.Hops.length:Int)))) (GX.m rfl ?_))))))))))
 rcases qq (decide (20 < (a0.Hops.length:Int))) with hb1 | hb1
 ·rw [hb1]; first | replace hR:=wz hb1 hR | (try simp only [hb1,bb] at hR)
  refine GX.q (.ptr 0 4) ?_
  refine GX.q (.ro 10 (a0.L.map qj.c)) ?_
  refine GX.pure (v':=.int .i64 (a0.L.length:Int)) rfl rfl rfl rfl (zj _ _) ?_
  iterate 2 refine GX.q (.bool (decide (40 < (a0.L.length:Int)))) ?_
  refine GX.done ?_
  rcases qq (decide (40 < (a0.L.length:Int))) with hb2 | hb2
  ·rw [hb2]; first | replace hR:=wz hb2 hR | (try simp only [hb2,bb] at hR)
   refine WK.condF rfl (WK.skip (WK.seq (WK.sr mixed (GX.m rfl (GX.done ?_)))))
   refine WK.len (t:=10) rfl (by simp) (fun ge3=>?_)
   rw [List.length_map] at ge3
   generalize gi3:F6l1 a0.L = gh3 at hR
   refine WK.forK (fun k s=>∃ (i3:Nat),i3 ≤ a0.L.length ∧ k = a0.L.length - i3 ∧ F6l1 (a0.L.drop i3) = gh3 ∧ s = ⟨[(1,.ptr 0 0),(3,.int .i64 (i3:Int))],[(0,.box (TAct.c a0))],1⟩) a0.L.length (by refine ⟨_,?_,0,(by omega),rfl,gi3,rfl⟩; exact Conv.keep [0] [] [1,3] rfl rfl (qx rfl rfl (qx rfl rfl qy)) rfl rfl) ?_
   rintro _ _ ⟨i3,gj3,rfl,gg3,rfl⟩ gb3 gd3 gk3 ga3 gc3 gf3
   refine WK.seq (WK.sr mixed (GX.m rfl (GX.q (.ptr 0 4) (GX.q (.ro 10 (a0.L.map qj.c)) (GX.pure (v':=.int .i64 (a0.L.length:Int)) rfl rfl rfl rfl (zj _ _) (GX.q (.bool (decide ((i3:Int) < (a0.L.length:Int)))) (GX.done ?_)))))))
   rcases qq (decide ((i3:Int) < (a0.L.length:Int))) with hb4 | hb4
   ·rw [hb4]
    rw [drop_end hb4,F6l1] at gg3
    refine WK.condF rfl (WK.exit ?_)
    refine QF.exit (gc3 _ ?_)
    subst gg3
    replace hR:=oexc_k hR; try dsimp only at hR
    refine WK.sr mixed (GX.m rfl (GX.done (WK.ret ?_)))
    obtain rfl:=Option.some.inj hR
    exact RetQ.fr [] (.inr rfl) rfl rfl rfl rfl
   ·rw [hb4]
    obtain ⟨x3,hx3,hd3,hlt3⟩:=drop_more hb4
    rw [hd3,F6l1] at gg3
    refine WK.condT rfl (WK.skip (WK.seq ?_))
    refine WK.blockK (fun _ hK5=>?_)
    refine WK.sr mixed (GX.q (.ptr 0 4) (GX.q (.ro 10 (a0.L.map qj.c)) (GX.m rfl (GX.idxT (c:=qj.c) (x:=x3) rfl rfl rfl (Int.natCast_nonneg _) hx3 (GX.q (.rptr [.ro 2 (x3.Hops.map THop.c)]) (GX.q (.ro 2 (x3.Hops.map THop.c)) (GX.pure (v':=.int .i64 (x3.Hops.length:Int)) rfl rfl rfl rfl (zj _ _) (GX.q (.bool (decide (20 < (x3.Hops.length:Int)))) (GX.done ?_)))))))))
    rcases qq (decide (20 < (x3.Hops.length:Int))) with hb6 | hb6
    ·rw [hb6]; try simp only [hb6,bb] at gg3
     refine WK.condF rfl (WK.skip ?_)
     refine WK.nil (QF.normal (hK5 _ ?_))
     refine WK.regx mixed (GX.m rfl (GX.pure (v':=.int .i64 ((i3 + 1:Nat):Int)) rfl rfl rfl rfl (congrArg (PVal.int .i64) (wrap_up hlt3 ge3)) (GX.m rfl (GX.done ?_))))
     refine WK.nil (QF.normal ?_)
     refine ga3 _ (a0.L.length - (i3 + 1)) _ (by omega) ?_ ⟨i3 + 1,(by omega),rfl,gg3,rfl⟩
     exact Conv.keep [0] [] [1,3] rfl rfl (qx rfl rfl (qx rfl rfl qy)) rfl rfl
    ·rw [hb6]; try simp only [hb6,bb] at gg3
     refine WK.condT rfl (WK.sr mixed (GX.m rfl (GX.done (WK.ret (QF.ret ?_)))))
     refine QF.ret (gf3 _ _ ?_)
     subst gg3
     first | replace hR:=oexc_e hR | replace hR:=oexc_k hR | replace hR:=obind_s hR
     try dsimp only at hR
     obtain rfl:=Option.some.inj hR
     exact RetQ.fr [] (.inr rfl) rfl rfl rfl rfl
  ·rw [hb2]; first | replace hR:=wy hb2 hR | (try simp only [hb2,bb] at hR)
   refine WK.condT rfl (WK.sr mixed (GX.m rfl (GX.done (WK.ret ?_))))
   obtain rfl:=Option.some.inj hR
   exact RetQ.fr [] (.inr rfl) rfl rfl rfl rfl
 ·rw [hb1]; first | replace hR:=wy hb1 hR | (try simp only [hb1,bb] at hR)
  iterate 4 refine GX.skip rfl rfl ?_
  refine GX.q (.bool true) (GX.done (WK.condT rfl (WK.sr mixed (GX.m rfl (GX.done (WK.ret ?_))))))
  obtain rfl:=Option.some.inj hR
  exact RetQ.fr [] (.inr rfl) rfl rfl rfl rfl
theorem f57_ok (x0:TNode) (a1:List TEntry) (R:(List TEntry)) (hR:F57 x0 a1 = some R):FnOk Tryz.prog 57 [.agg (TNode.c x0),.ptr 0 0] [(0,.box [.own 1 3 0 a1.length]),(1,.row 3 54 (a1.map TEntry.c))] 2 (.tup []) [(0,.box [.own 2 3 0 R.length]),(2,.row 3 54 (R.map TEntry.c))] 3:=by
 refine FnOk.wk i57 rfl rfl ?_
 unfold F57 at hR
 try dsimp only at hR
 change WK _ _ _ [ac57] _ ⟨[(0,.agg (TNode.c x0)),(1,.ptr 0 0)],[(0,.box [.own 1 3 0 a1.length]),(1,.row 3 54 (a1.map TEntry.c))],2⟩
 unfold ac57
 refine WK.mvB (id:=0) (j:=0) (zx:=[(0,.box [.own 2 3 0 a1.length]),(2,.row 3 54 (a1.map TEntry.c))]) rfl rfl rfl (by simp) rfl (WK.sr mixed (GX.step (v':=.ptr 3 0) (zx:=[(0,.box [.own 2 3 0 a1.length]),(2,.row 3 54 (a1.map TEntry.c)),(3,.box (TNode.c x0))]) (zy:=4) rfl rfl rfl rfl rfl rfl rfl (GX.done (WK.sr mixed (GX.q (.ptr 3 3) (GX.q (.bool x0.isf) (GX.done ?_)))))))
 rcases qq (x0.isf) with hb1 | hb1
 ·rw [hb1]; first | replace hR:=wz hb1 hR | (try simp only [hb1,bb] at hR)
  refine WK.condF rfl (WK.skip (WK.nil ?_))
  obtain rfl:=Option.some.inj hR
  exact RetQ.ret [0,1,2] [] (.inl rfl) rfl rfl rfl rfl rfl .refl rfl
 ·rw [hb1]; first | replace hR:=wy hb1 hR | (try simp only [hb1,bb] at hR)
  refine WK.condT rfl (WK.regx mixed (GX.q (.own 2 3 0 a1.length) (GX.q (.ptr 3 0) (GX.q (.agg [.int .u32 x0.p.A,.int .i64 x0.p.N]) (GX.q (.ptr 3 2) (GX.q (.int .i64 x0.v) (GX.q (.agg [.int .u32 x0.p.A,.int .i64 x0.p.N,.int .i64 x0.v]) (GX.step (v':=.own 4 3 0 (([(⟨x0.p,x0.v⟩ : TEntry)]:List TEntry)).length) (zx:=[(0,.box [.own 2 3 0 a1.length]),(2,.row 3 54 (a1.map TEntry.c)),(3,.box (TNode.c x0)),(4,.row 3 54 (([(⟨x0.p,x0.v⟩ : TEntry)]:List TEntry).map TEntry.c))]) (zy:=5) rfl rfl rfl rfl rfl rfl rfl ?_))))))))
  rcases qq (decide (a1.length < 1099511627776)) with hg2 | hg2
  ·replace hR:=wz hg2 hR
   cases hR
  replace hR:=wy hg2 hR; try dsimp only at hR
  have hg2_:=of_decide_eq_true hg2
  refine GX.appT (c:=TEntry.c) (L:=a1) (X:=([(⟨x0.p,x0.v⟩ : TEntry)]:List TEntry)) (zx:=[(0,.box [.own 2 3 0 a1.length]),(3,.box (TNode.c x0)),(4,.row 3 54 (([(⟨x0.p,x0.v⟩ : TEntry)]:List TEntry).map TEntry.c)),(5,.row 3 54 ((a1 ++ ([(⟨x0.p,x0.v⟩ : TEntry)]:List TEntry)).map TEntry.c))]) (zy:=6) rfl rfl rfl rfl (elems_own rfl) (by ((try simp only [List.length_append,List.length_cons,List.length_nil,List.length_map,decide_eq_true_eq,decide_eq_false_iff_not] at *) <;> omega)) (by ((try simp only [List.length_append,List.length_cons,List.length_nil,List.length_map,decide_eq_true_eq,decide_eq_false_iff_not] at *) <;> omega)) rfl rfl rfl rfl (GX.step0 (zx:=[(0,.box [.own 5 3 0 (a1 ++ ([(⟨x0.p,x0.v⟩ : TEntry)]:List TEntry)).length]),(3,.box (TNode.c x0)),(4,.row 3 54 (([(⟨x0.p,x0.v⟩ : TEntry)]:List TEntry).map TEntry.c)),(5,.row 3 54 ((a1 ++ ([(⟨x0.p,x0.v⟩ : TEntry)]:List TEntry)).map TEntry.c))]) (zy:=6) rfl rfl rfl rfl rfl (GX.done (WK.nil ?_)))
  obtain rfl:=Option.some.inj hR
  exact RetQ.ret [0,1,5] [] (.inl rfl) rfl rfl rfl rfl rfl .refl rfl
theorem f43_ok (n0:Int) (R:Bool) (hR:F43 n0 = R):FnOk Tryz.prog 43 [.int .i64 n0] [] 0 (.bool R) [] 0:=by
 refine FnOk.wk i43 rfl rfl ?_
 unfold F43 at hR
 change WK _ _ _ [ac43] _ ⟨[(0,.int .i64 n0)],[],0⟩
 unfold ac43
 refine WK.sr mixed (GX.m rfl (GX.done (WK.sr mixed (GX.m rfl (GX.q (.bool (decide (0 ≤ n0))) (GX.m rfl ?_))))))
 rcases qq (decide (0 ≤ n0)) with hb1 | hb1
 ·rw [hb1]; try simp only [hb1,bb] at hR
  refine GX.skip rfl rfl (GX.skip rfl rfl (GX.q (.bool false) (GX.m rfl (GX.done (WK.ret ?_)))))
  subst hR
  exact RetQ.fr [] (.inr rfl) rfl rfl rfl rfl
 ·rw [hb1]; try simp only [hb1,bb] at hR
  refine GX.m rfl (GX.q (.bool (decide (n0 ≤ 32))) (GX.q (.bool (decide (n0 ≤ 32))) (GX.m rfl (GX.done (WK.ret ?_)))))
  subst hR
  exact RetQ.fr [] (.inr rfl) rfl rfl rfl rfl
theorem f44_ok (n0:Int) (R:Int) (hR:F44 n0 = R):FnOk Tryz.prog 44 [.int .i64 n0] [] 0 (.int .u32 R) [] 0:=by
 refine FnOk.wk i44 rfl rfl ?_
 unfold F44 at hR
 change WK _ _ _ [ac44] _ ⟨[(0,.int .i64 n0)],[],0⟩
 unfold ac44
 refine WK.sr mixed (GX.m rfl (GX.done (WK.sr mixed (GX.m rfl (GX.q (.int .i64 (max_ n0 0)) (GX.q (.int .i64 (min_ (max_ n0 0) 32)) (GX.m rfl (GX.done (WK.sr mixed (GX.m rfl (GX.q (.int .i64 (IntKind.i64.wrap (32 - (min_ (max_ n0 0) 32)))) (GX.shl rfl rfl rfl (by ((try simp only [decide_eq_true_eq,decide_eq_false_iff_not,Bool.not_eq_true,Bool.not_eq_false] at *); first | omega | (rw [wrap64_of (by omega) (by omega)]; omega) | (unfold min_ max_; (repeat' split) <;> first | omega | (rw [wrap64_of (by omega) (by omega)]; omega)))) (GX.q (.int .u32 (IntKind.u32.wrap (shl_ .u64 4294967295 (IntKind.i64.wrap (32 - (min_ (max_ n0 0) 32)))))) ?_)))))))))))))
 refine GX.m rfl (GX.done (WK.ret ?_))
 subst hR
 exact RetQ.fr [] (.inr rfl) rfl rfl rfl rfl
theorem f28_ok (p0:qk) (R:Bool) (hR:F28 p0 = R):FnOk Tryz.prog 28 [.agg (qk.c p0)] [] 0 (.bool R) [] 0:=by
 refine FnOk.wk i28 rfl rfl ?_
 unfold F28 at hR
 change WK _ _ _ [ac28] _ ⟨[(0,.agg (qk.c p0))],[],0⟩
 unfold ac28
 refine WK.sr mixed (GX.step (v':=.ptr 0 0) (zx:=[(0,.box (qk.c p0))]) (zy:=1) rfl rfl rfl rfl rfl rfl rfl (GX.m rfl (GX.done (WK.seq (WK.drawn mixed (RD.q (.ptr 0 1) (RD.q (.int .i64 p0.N) ?_)))))))
 generalize hc5:F43 p0.N = c5 at hR
 try dsimp only at hR
 refine RD.callp (r:=.bool c5) rfl rfl rfl (f43_ok p0.N _ hc5) rfl rfl (RD.m rfl ?_)
 rcases qq (c5) with hb1 | hb1
 ·rw [hb1]; try simp only [hb1,bb] at hR
  iterate 7 refine RD.skip rfl rfl ?_
  refine RD.q (.bool false) (RD.m rfl (RD.done rfl (WK.ret ?_)))
  subst hR
  exact RetQ.fr [] (.inr rfl) rfl rfl rfl rfl
 ·rw [hb1]; try simp only [hb1,bb] at hR
  refine RD.q (.ptr 0 0) (RD.q (.int .u32 p0.A) (RD.q (.ptr 0 1) (RD.q (.int .i64 p0.N) ?_)))
  generalize hc11:F44 p0.N = c11 at hR
  try dsimp only at hR
  refine RD.callp (r:=.int .u32 c11) rfl rfl rfl (f44_ok p0.N _ hc11) rfl rfl (RD.q (.int .u32 (bit_andNot .u32 p0.A c11)) (RD.q (.bool (decide (bit_andNot .u32 p0.A c11 = 0))) (RD.q (.bool (decide (bit_andNot .u32 p0.A c11 = 0))) (RD.m rfl (RD.done rfl (WK.ret ?_))))))
  subst hR
  exact RetQ.fr [] (.inr rfl) rfl rfl rfl rfl
theorem f66_ok (p0:qk) (a1:Int) (R:Bool) (hR:F66 p0 a1 = R):FnOk Tryz.prog 66 [.agg (qk.c p0),.int .u32 a1] [] 0 (.bool R) [] 0:=by
 refine FnOk.wk i66 rfl rfl ?_
 unfold F66 at hR
 change WK _ _ _ [ac66] _ ⟨[(0,.agg (qk.c p0)),(1,.int .u32 a1)],[],0⟩
 unfold ac66
 refine WK.sr mixed (GX.step (v':=.ptr 0 0) (zx:=[(0,.box (qk.c p0))]) (zy:=1) rfl rfl rfl rfl rfl rfl rfl (GX.m rfl (GX.done (WK.seq (WK.drawn mixed (RD.q (.agg (qk.c p0)) ?_))))))
 generalize hc6:F28 p0 = c6 at hR
 try dsimp only at hR
 refine RD.callp (r:=.bool c6) rfl rfl rfl (f28_ok p0 _ hc6) rfl rfl (RD.m rfl ?_)
 rcases qq (c6) with hb1 | hb1
 ·rw [hb1]; try simp only [hb1,bb] at hR
  iterate 8 refine RD.skip rfl rfl ?_
  refine RD.q (.bool false) (RD.m rfl (RD.done rfl (WK.ret ?_)))
  subst hR
  exact RetQ.fr [] (.inr rfl) rfl rfl rfl rfl
 ·rw [hb1]; try simp only [hb1,bb] at hR
  refine RD.m rfl (RD.q (.ptr 0 1) (RD.q (.int .i64 p0.N) ?_))
  generalize hc11:F44 p0.N = c11 at hR
  try dsimp only at hR
  refine RD.callp (r:=.int .u32 c11) rfl rfl rfl (f44_ok p0.N _ hc11) rfl rfl (RD.q (.int .u32 (bit_and .u32 a1 c11)) (RD.q (.ptr 0 0) (RD.q (.int .u32 p0.A) (RD.q (.bool (decide (bit_and .u32 a1 c11 = p0.A))) (RD.q (.bool (decide (bit_and .u32 a1 c11 = p0.A))) (RD.m rfl (RD.done rfl (WK.ret ?_))))))))
  subst hR
  exact RetQ.fr [] (.inr rfl) rfl rfl rfl rfl
theorem f51_ok (p0:qk) (q1:qk) (R:Bool) (hR:F51 p0 q1 = R):FnOk Tryz.prog 51 [.agg (qk.c p0),.agg (qk.c q1)] [] 0 (.bool R) [] 0:=by
 refine FnOk.wk i51 rfl rfl ?_
 unfold F51 at hR
 change WK _ _ _ [ac51] _ ⟨[(0,.agg (qk.c p0)),(1,.agg (qk.c q1))],[],0⟩
 unfold ac51
 refine WK.sr mixed (GX.step (v':=.ptr 0 0) (zx:=[(0,.box (qk.c p0))]) (zy:=1) rfl rfl rfl rfl rfl rfl rfl (GX.step (v':=.ptr 1 0) (zx:=[(0,.box (qk.c p0)),(1,.box (qk.c q1))]) (zy:=2) rfl rfl rfl rfl rfl rfl rfl (GX.m rfl (GX.done (WK.sr mixed (GX.q (.agg (qk.c q1)) ?_))))))
 generalize hc6:F28 q1 = c6 at hR
 try dsimp only at hR
 refine GX.callp (r:=.bool c6) rfl rfl rfl (f28_ok q1 _ hc6) rfl rfl (GX.m rfl ?_)
 rcases qq (c6) with hb1 | hb1
 ·rw [hb1]; try simp only [hb1,bb] at hR
  iterate 5 refine GX.skip rfl rfl ?_
  refine GX.q (.bool false) (GX.m rfl ?_)
  iterate 4 refine GX.skip rfl rfl ?_
  refine GX.q (.bool false) (GX.m rfl (GX.done (WK.ret ?_)))
  subst hR
  exact RetQ.fr [] (.inr rfl) rfl rfl rfl rfl
 ·rw [hb1]; try simp only [hb1,bb] at hR
  refine GX.q (.ptr 0 1) (GX.q (.int .i64 p0.N) (GX.q (.ptr 1 1) (GX.q (.int .i64 q1.N) (GX.q (.bool (decide (p0.N ≤ q1.N))) (GX.q (.bool (decide (p0.N ≤ q1.N))) (GX.m rfl ?_))))))
  rcases qq (decide (p0.N ≤ q1.N)) with hb2 | hb2
  ·rw [hb2]; try simp only [hb2,bb] at hR
   iterate 4 refine GX.skip rfl rfl ?_
   refine GX.q (.bool false) (GX.m rfl (GX.done (WK.ret ?_)))
   subst hR
   exact RetQ.fr [] (.inr rfl) rfl rfl rfl rfl
  ·rw [hb2]; try simp only [hb2,bb] at hR
   refine GX.q (.agg (qk.c p0)) (GX.q (.ptr 1 0) (GX.q (.int .u32 q1.A) ?_))
   generalize hc18:F66 p0 q1.A = c18 at hR
   try dsimp only at hR
   refine GX.callp (r:=.bool c18) rfl rfl rfl (f66_ok p0 q1.A _ hc18) rfl rfl (GX.q (.bool c18) (GX.m rfl (GX.done (WK.ret ?_))))
   subst hR
   exact RetQ.fr [] (.inr rfl) rfl rfl rfl rfl
theorem f77_ok (a0:Int) (i1:Int) (R:Int) (hR:F77 a0 i1 = R):FnOk Tryz.prog 77 [.int .u32 a0,.int .i64 i1] [] 0 (.int .i64 R) [] 0:=by
 refine FnOk.wk i77 rfl rfl ?_
 unfold F77 at hR
 change WK _ _ _ [ac77] _ ⟨[(0,.int .u32 a0),(1,.int .i64 i1)],[],0⟩
 unfold ac77
 refine WK.sr mixed (GX.m rfl (GX.done (WK.seq (WK.sr mixed (GX.m rfl (GX.q (.bool (decide (i1 < 0))) (GX.m rfl ?_)))))))
 rcases qq (decide (i1 < 0)) with hb1 | hb1
 ·rw [hb1]; try simp only [hb1,bb] at hR
  refine GX.m rfl ?_
  iterate 2 refine GX.q (.bool (decide (32 ≤ i1))) ?_
  refine GX.done ?_
  rcases qq (decide (32 ≤ i1)) with hb2 | hb2
  ·rw [hb2]; try simp only [hb2,bb] at hR
   refine WK.condF rfl (WK.skip (WK.sr mixed (GX.m rfl (GX.m rfl (GX.q (.int .i64 (IntKind.i64.wrap (31 - i1))) (GX.shr rfl rfl rfl (by ((try simp only [decide_eq_true_eq,decide_eq_false_iff_not,Bool.not_eq_true,Bool.not_eq_false] at *); first | omega | (rw [wrap64_of (by omega) (by omega)]; omega) | (unfold min_ max_; (repeat' split) <;> first | omega | (rw [wrap64_of (by omega) (by omega)]; omega)))) (GX.q (.int .u32 (bit_and .u32 (shr_ .u32 a0 (IntKind.i64.wrap (31 - i1))) 1)) (GX.q (.int .i64 (IntKind.i64.wrap (bit_and .u32 (shr_ .u32 a0 (IntKind.i64.wrap (31 - i1))) 1))) (GX.m rfl (GX.done (WK.ret ?_)))))))))))
   subst hR
   exact RetQ.fr [] (.inr rfl) rfl rfl rfl rfl
  ·rw [hb2]; try simp only [hb2,bb] at hR
   refine WK.condT rfl (WK.sr mixed (GX.m rfl (GX.done (WK.ret ?_))))
   subst hR
   exact RetQ.fr [] (.inr rfl) rfl rfl rfl rfl
 ·rw [hb1]; try simp only [hb1,bb] at hR
  refine GX.skip rfl rfl (GX.skip rfl rfl (GX.q (.bool true) (GX.done (WK.condT rfl (WK.sr mixed (GX.m rfl (GX.done (WK.ret ?_))))))))
  subst hR
  exact RetQ.fr [] (.inr rfl) rfl rfl rfl rfl
theorem f60_ok (above0:qk) (p1:qk) (R:Int) (hR:F60 above0 p1 = R):FnOk Tryz.prog 60 [.agg (qk.c above0),.agg (qk.c p1)] [] 0 (.int .i64 R) [] 0:=by
 refine FnOk.wk i60 rfl rfl ?_
 unfold F60 at hR
 change WK _ _ _ [ac60] _ ⟨[(0,.agg (qk.c above0)),(1,.agg (qk.c p1))],[],0⟩
 unfold ac60
 refine WK.sr mixed (GX.step (v':=.ptr 0 0) (zx:=[(0,.box (qk.c above0))]) (zy:=1) rfl rfl rfl rfl rfl rfl rfl (GX.step (v':=.ptr 1 0) (zx:=[(0,.box (qk.c above0)),(1,.box (qk.c p1))]) (zy:=2) rfl rfl rfl rfl rfl rfl rfl (GX.m rfl (GX.done (WK.sr mixed (GX.q (.ptr 1 0) (GX.q (.int .u32 p1.A) (GX.q (.ptr 0 1) (GX.q (.int .i64 above0.N) ?_)))))))))
 generalize hc9:F77 p1.A above0.N = c9 at hR
 try dsimp only at hR
 refine GX.callp (r:=.int .i64 c9) rfl rfl rfl (f77_ok p1.A above0.N _ hc9) rfl rfl (GX.m rfl (GX.done (WK.ret ?_)))
 subst hR
 exact RetQ.fr [] (.inr rfl) rfl rfl rfl rfl
theorem f56_ok (t0:TTrie) (p1:qk) (a1_each2:List TEntry) (R:(List TEntry)) (hR:F56 t0 p1 a1_each2 = some R):FnOk Tryz.prog 56 [.ptr 0 0,.agg (qk.c p1),.fn 57 [] [.ptr 1 0]] [(0,.box [.own 2 6 0 t0.l.length,.own 3 1 0 t0.free.length,.int .i64 t0.root,.int .i64 t0.n]),(1,.box [.own 4 3 0 a1_each2.length]),(2,.row 6 101 (t0.l.map TNode.c)),(3,.row 1 3 (t0.free.map c_i64)),(4,.row 3 54 (a1_each2.map TEntry.c))] 5 (.tup []) [(0,.box [.own 2 6 0 t0.l.length,.own 3 1 0 t0.free.length,.int .i64 t0.root,.int .i64 t0.n]),(1,.box [.own 5 3 0 R.length]),(2,.row 6 101 (t0.l.map TNode.c)),(3,.row 1 3 (t0.free.map c_i64)),(5,.row 3 54 (R.map TEntry.c))] 6:=by
 refine FnOk.wk i56 rfl rfl ?_
 unfold F56 at hR
 try dsimp only at hR
 change WK _ _ _ [ac56] _ ⟨[(0,.ptr 0 0),(1,.agg (qk.c p1)),(2,.fn 57 [] [.ptr 1 0])],[(0,.box [.own 2 6 0 t0.l.length,.own 3 1 0 t0.free.length,.int .i64 t0.root,.int .i64 t0.n]),(1,.box [.own 4 3 0 a1_each2.length]),(2,.row 6 101 (t0.l.map TNode.c)),(3,.row 1 3 (t0.free.map c_i64)),(4,.row 3 54 (a1_each2.map TEntry.c))],5⟩
 unfold ac56
 refine WK.mvB (id:=1) (j:=0) (zx:=[(0,.box [.own 2 6 0 t0.l.length,.own 3 1 0 t0.free.length,.int .i64 t0.root,.int .i64 t0.n]),(1,.box [.own 5 3 0 a1_each2.length]),(2,.row 6 101 (t0.l.map TNode.c)),(3,.row 1 3 (t0.free.map c_i64)),(5,.row 3 54 (a1_each2.map TEntry.c))]) rfl rfl rfl (by simp) rfl (WK.sr mixed (GX.step (v':=.ptr 6 0) (zx:=[(0,.box [.own 2 6 0 t0.l.length,.own 3 1 0 t0.free.length,.int .i64 t0.root,.int .i64 t0.n]),(1,.box [.own 5 3 0 a1_each2.length]),(2,.row 6 101 (t0.l.map TNode.c)),(3,.row 1 3 (t0.free.map c_i64)),(5,.row 3 54 (a1_each2.map TEntry.c)),(6,.box (qk.c p1))]) (zy:=7) rfl rfl rfl rfl rfl rfl rfl (GX.done (WK.seq (WK.sr mixed (GX.m rfl (GX.q (.bool false) (GX.done (WK.condF rfl (WK.skip (WK.sr mixed (GX.m rfl (GX.q (.ptr 0 0) ?_)))))))))))))
 refine GX.q (.ptr 0 2) (GX.q (.int .i64 t0.root) (GX.m rfl (GX.done ?_)))
 generalize gi9:F56l1 t0 p1 100 t0.root a1_each2 = gh9 at hR
 refine WK.forK (fun k s=>∃ (i6:Int) (row5:List TEntry),F56l1 t0 p1 k i6 row5 = gh9 ∧ s = ⟨[(0,.ptr 0 0),(2,.fn 57 [] [.ptr 1 0]),(4,.ptr 6 0),(6,.int .i64 i6)],[(0,.box [.own 2 6 0 t0.l.length,.own 3 1 0 t0.free.length,.int .i64 t0.root,.int .i64 t0.n]),(1,.box [.own 5 3 0 row5.length]),(2,.row 6 101 (t0.l.map TNode.c)),(3,.row 1 3 (t0.free.map c_i64)),(5,.row 3 54 (row5.map TEntry.c)),(6,.box (qk.c p1))],7⟩) 100 (by refine ⟨_,?_,t0.root,a1_each2,gi9,rfl⟩; exact Conv.keepR [0,1,2,3,4,5,6] [] [0,2,4,6] rfl rfl (qx rfl rfl (qx rfl rfl (qx rfl rfl (qx rfl rfl qy)))) rfl rfl) ?_
 rintro k9 _ ⟨i6,row5,gg9,rfl⟩ gb9 gd9 gk9 ga9 gc9 gf9
 rcases k9 with _ | f9
 ·unfold F56l1 at gg9
  subst gg9
  first | replace hR:=zq hR | replace hR:=oexc_n hR
  cases hR
 unfold F56l1 at gg9; try dsimp only at gg9
 refine WK.seq (WK.seq (WK.drawn mixed (RD.m rfl (RD.q (.bool (!decide (i6 = (-1)))) (RD.m rfl ?_)))))
 rcases qq (decide (i6 = (-1))) with hb10 | hb10
 ·rw [hb10]; try simp only [hb10,bb] at gg9
  refine RD.m rfl (RD.q (.ptr 0 0) (RD.q (.ptr 0 0) (RD.q (.own 2 6 0 t0.l.length) (RD.m rfl ?_))))
  rcases zw gg9 with ⟨_,gg9⟩ | ⟨x910,hx910,gg9⟩
  ·subst gg9
   first | replace hR:=zq hR | replace hR:=oexc_n hR
   cases hR
  try dsimp only at gg9
  obtain ⟨hx9100,hx910j,hx910l,hx910⟩:=zk hx910
  refine RD.pure (v':=.eptr 2 6 i6.toNat 0) rfl rfl rfl (core_idxoT (c:=TNode.c) (L:=t0.l) (j:=i6.toNat) rfl hx910j hx910l (by exact Nat.le_refl _)) rfl (RD.pure (v':=.eptr 2 6 i6.toNat 0) rfl rfl rfl (core_fldT (c:=TNode.c) (L:=t0.l) rfl (by omega) rfl) rfl (RD.pure (v':=.agg [.int .u32 x910.p.A,.int .i64 x910.p.N]) rfl rfl rfl (core_loaT (c:=TNode.c) (L:=t0.l) (x:=x910) rfl hx910 rfl) rfl (RD.q (.agg (qk.c p1)) ?_)))
  generalize hc26:F51 x910.p p1 = c26 at gg9
  try dsimp only at gg9
  refine RD.callp (r:=.bool c26) rfl rfl rfl (f51_ok x910.p p1 _ hc26) rfl rfl (RD.q (.bool c26) (RD.done rfl ?_))
  rcases qq (c26) with hb12 | hb12
  ·rw [hb12]; try simp only [hb12,bb] at gg9
   refine WK.condF rfl (WK.exit ?_)
   refine QF.exit (gc9 _ ?_)
   subst gg9
   replace hR:=oexc_k hR; try dsimp only at hR
   refine WK.nil ?_
   obtain rfl:=Option.some.inj hR
   exact RetQ.ret [0,1,2,3,4,5] [] (.inl rfl) rfl rfl rfl rfl rfl .refl rfl
  ·rw [hb12]; try simp only [hb12,bb] at gg9
   refine WK.condT rfl (WK.skip ?_)
   refine WK.blockK (fun _ hK13=>?_)
   refine WK.sr mixed (GX.m rfl (GX.q (.ptr 0 0) (GX.q (.ptr 0 0) (GX.q (.own 2 6 0 t0.l.length) (GX.m rfl (GX.pure (v':=.eptr 2 6 i6.toNat 0) rfl rfl rfl (core_idxoT (c:=TNode.c) (L:=t0.l) (j:=i6.toNat) rfl hx910j hx910l (by exact Nat.le_refl _)) rfl (GX.pure (v':=.agg (TNode.c x910)) rfl rfl rfl (core_loaT (c:=TNode.c) (L:=t0.l) (x:=x910) rfl hx910 rfl) rfl (GX.step (v':=.ptr 7 0) (zx:=[(0,.box [.own 2 6 0 t0.l.length,.own 3 1 0 t0.free.length,.int .i64 t0.root,.int .i64 t0.n]),(1,.box [.own 5 3 0 row5.length]),(2,.row 6 101 (t0.l.map TNode.c)),(3,.row 1 3 (t0.free.map c_i64)),(5,.row 3 54 (row5.map TEntry.c)),(6,.box (qk.c p1)),(7,.box [.int .u32 0,.int .i64 0,.int .i64 0,.bool false,.int .i64 0,.int .i64 0])]) (zy:=8) rfl rfl rfl rfl rfl rfl rfl (GX.step0 (zx:=[(0,.box [.own 2 6 0 t0.l.length,.own 3 1 0 t0.free.length,.int .i64 t0.root,.int .i64 t0.n]),(1,.box [.own 5 3 0 row5.length]),(2,.row 6 101 (t0.l.map TNode.c)),(3,.row 1 3 (t0.free.map c_i64)),(5,.row 3 54 (row5.map TEntry.c)),(6,.box (qk.c p1)),(7,.box (TNode.c x910))]) (zy:=8) rfl rfl rfl rfl rfl (GX.done (WK.sr mixed (GX.m rfl (GX.q (.agg (TNode.c x910)) ?_)))))))))))))
   rcases zw gg9 with ⟨_,gg9⟩ | ⟨c37,hc37,gg9⟩
   ·subst gg9
    first | replace hR:=zq hR | replace hR:=oexc_n hR
    cases hR
   try dsimp only at gg9
   try dsimp only at gg9
   refine GX.callvx (r':=.tup []) (zx:=[(0,.box [.own 2 6 0 t0.l.length,.own 3 1 0 t0.free.length,.int .i64 t0.root,.int .i64 t0.n]),(1,.box [.own 8 3 0 c37.length]),(2,.row 6 101 (t0.l.map TNode.c)),(3,.row 1 3 (t0.free.map c_i64)),(6,.box (qk.c p1)),(7,.box (TNode.c x910)),(8,.row 3 54 (c37.map TEntry.c))]) (zy:=9) [1,5] [] rfl rfl rfl rfl rfl rfl (f57_ok x910 row5 _ hc37) (.inl rfl) rfl rfl rfl (GX.done (WK.seq (WK.sr mixed (GX.q (.ptr 7 0) (GX.q (.ptr 7 1) (GX.q (.int .i64 x910.p.N) (GX.q (.ptr 6 1) (GX.q (.int .i64 p1.N) (GX.q (.bool (decide (x910.p.N = p1.N))) (GX.done ?_))))))))))
   rcases qq (decide (x910.p.N = p1.N)) with hb15 | hb15
   ·rw [hb15]; try simp only [hb15,bb] at gg9
    refine WK.condF rfl (WK.skip (WK.regx mixed (GX.q (.ptr 7 0) (GX.q (.agg [.int .u32 x910.p.A,.int .i64 x910.p.N]) (GX.q (.agg (qk.c p1)) ?_)))))
    generalize hc47:F60 x910.p p1 = c47 at gg9
    try dsimp only at gg9
    refine GX.callp (r:=.int .i64 c47) rfl rfl rfl (f60_ok x910.p p1 _ hc47) rfl rfl (GX.q (.ptr 7 4) ?_)
    rcases Bool.eq_false_or_eq_true (decide (c47 = 0)) with hk16b | hk16b
    ·simp only [hk16b,bb] at gg9
     have hk16:=of_decide_eq_true hk16b
     refine GX.pure (v':=.ptr 7 4) rfl rfl rfl (core_idxAAp (k:=0) rfl hk16 rfl rfl) rfl (GX.q (.int .i64 x910.kids.e0) (GX.m rfl (GX.done ?_)))
     refine WK.nil (QF.normal (hK13 _ ?_))
     refine WK.nil (QF.normal ?_)
     refine ga9 _ f9 _ (Nat.lt_succ_self _) ?_ ⟨x910.kids.e0,c37,gg9,rfl⟩
     exact Conv.keepR [0,1,2,3,4,8,6] [] [0,2,4,6] rfl rfl (qx rfl rfl (qx rfl rfl (qx rfl rfl (qx rfl rfl qy)))) rfl rfl
    simp only [hk16b,bb] at gg9
    rcases Bool.eq_false_or_eq_true (decide (c47 = 1)) with hk17b | hk17b
    ·simp only [hk17b,bb] at gg9
     have hk17:=of_decide_eq_true hk17b
     refine GX.pure (v':=.ptr 7 5) rfl rfl rfl (core_idxAAp (k:=1) rfl hk17 rfl rfl) rfl (GX.q (.int .i64 x910.kids.e1) (GX.m rfl (GX.done ?_)))
     refine WK.nil (QF.normal (hK13 _ ?_))
     refine WK.nil (QF.normal ?_)
     refine ga9 _ f9 _ (Nat.lt_succ_self _) ?_ ⟨x910.kids.e1,c37,gg9,rfl⟩
     exact Conv.keepR [0,1,2,3,4,8,6] [] [0,2,4,6] rfl rfl (qx rfl rfl (qx rfl rfl (qx rfl rfl (qx rfl rfl qy)))) rfl rfl
    simp only [hk17b,bb] at gg9
    subst gg9
    first | replace hR:=zq hR | replace hR:=oexc_n hR
    cases hR
   ·rw [hb15]; try simp only [hb15,bb] at gg9
    refine WK.condT rfl (WK.ret (QF.ret ?_))
    refine QF.ret (gf9 _ _ ?_)
    subst gg9
    first | replace hR:=oexc_e hR | replace hR:=oexc_k hR | replace hR:=obind_s hR
    try dsimp only at hR
    obtain rfl:=Option.some.inj hR
    exact RetQ.ret [0,1,2,3,4,8] [] (.inr rfl) rfl rfl rfl rfl rfl .refl rfl
 ·rw [hb10]; try simp only [hb10,bb] at gg9
  iterate 10 refine RD.skip rfl rfl ?_
  refine RD.q (.bool false) (RD.done rfl (WK.condF rfl (WK.exit ?_)))
  refine QF.exit (gc9 _ ?_)
  subst gg9
  replace hR:=oexc_k hR; try dsimp only at hR
  refine WK.nil ?_
  obtain rfl:=Option.some.inj hR
  exact RetQ.ret [0,1,2,3,4,5] [] (.inl rfl) rfl rfl rfl rfl rfl .refl rfl
theorem f42_ok (t0:TTrie) (p1:qk) (R:(List TEntry)) (hR:F42 t0 p1 = some R):FnOk Tryz.prog 42 [.ptr 0 0,.agg (qk.c p1)] [(0,.box [.own 1 6 0 t0.l.length,.own 2 1 0 t0.free.length,.int .i64 t0.root,.int .i64 t0.n]),(1,.row 6 101 (t0.l.map TNode.c)),(2,.row 1 3 (t0.free.map c_i64))] 3 (.ro 3 (R.map TEntry.c)) [(0,.box [.own 1 6 0 t0.l.length,.own 2 1 0 t0.free.length,.int .i64 t0.root,.int .i64 t0.n]),(1,.row 6 101 (t0.l.map TNode.c)),(2,.row 1 3 (t0.free.map c_i64))] 3:=by
 refine FnOk.wk i42 rfl rfl ?_
 unfold F42 at hR
 try dsimp only at hR
 change WK _ _ _ [ac42] _ ⟨[(0,.ptr 0 0),(1,.agg (qk.c p1))],[(0,.box [.own 1 6 0 t0.l.length,.own 2 1 0 t0.free.length,.int .i64 t0.root,.int .i64 t0.n]),(1,.row 6 101 (t0.l.map TNode.c)),(2,.row 1 3 (t0.free.map c_i64))],3⟩
 unfold ac42
 refine WK.sr mixed (GX.step (v':=.ptr 3 0) (zx:=[(0,.box [.own 1 6 0 t0.l.length,.own 2 1 0 t0.free.length,.int .i64 t0.root,.int .i64 t0.n]),(1,.row 6 101 (t0.l.map TNode.c)),(2,.row 1 3 (t0.free.map c_i64)),(3,.box (qk.c p1))]) (zy:=4) rfl rfl rfl rfl rfl rfl rfl (GX.m rfl (GX.done (WK.sr mixed (GX.step (v':=.ptr 4 0) (zx:=[(0,.box [.own 1 6 0 t0.l.length,.own 2 1 0 t0.free.length,.int .i64 t0.root,.int .i64 t0.n]),(1,.row 6 101 (t0.l.map TNode.c)),(2,.row 1 3 (t0.free.map c_i64)),(3,.box (qk.c p1)),(4,.box [.nils])]) (zy:=5) rfl rfl rfl rfl rfl rfl rfl (GX.done (WK.seq (WK.adoptB (id:=4) (j:=0) (sz:=3) (ty:=54) (zx:=[(0,.box [.own 1 6 0 t0.l.length,.own 2 1 0 t0.free.length,.int .i64 t0.root,.int .i64 t0.n]),(1,.row 6 101 (t0.l.map TNode.c)),(2,.row 1 3 (t0.free.map c_i64)),(3,.box (qk.c p1)),(4,.box [.own 5 3 0 (([]:List TEntry)).length]),(5,.row 3 54 (([]:List TEntry).map TEntry.c))]) rfl rfl (by decide) (by simp) rfl (WK.regx mixed (GX.m rfl (GX.q (.agg (qk.c p1)) (GX.q (.fn 57 [] [.ptr 4 0]) ?_))))))))))))
 obtain ⟨c9,hc9,hR⟩:=zz hR; try dsimp only at hR
 try dsimp only at hR
 refine GX.callx (r':=.tup []) (zx:=[(0,.box [.own 1 6 0 t0.l.length,.own 2 1 0 t0.free.length,.int .i64 t0.root,.int .i64 t0.n]),(1,.row 6 101 (t0.l.map TNode.c)),(2,.row 1 3 (t0.free.map c_i64)),(3,.box (qk.c p1)),(4,.box [.own 6 3 0 c9.length]),(6,.row 3 54 (c9.map TEntry.c))]) (zy:=7) [0,4,1,2,5] [] rfl rfl rfl rfl rfl rfl (f56_ok t0 p1 ([]:List TEntry) _ hc9) (.inl rfl) rfl rfl rfl (GX.done (WK.sr mixed (GX.q (.own 6 3 0 c9.length) (GX.m rfl (GX.done (WK.ret ?_))))))
 obtain rfl:=Option.some.inj hR
 exact RetQ.ret [0,1,2] [6] (.inr rfl) rfl rfl rfl rfl (qz (view_rowT rfl rfl) qw) .refl rfl
theorem f25_ok (t0:TTrie) (a1:Int) (R:TEntry × Bool) (hR:F25 t0 a1 = some R):FnOk Tryz.prog 25 [.ptr 0 0,.int .u32 a1] [(0,.box [.own 1 6 0 t0.l.length,.own 2 1 0 t0.free.length,.int .i64 t0.root,.int .i64 t0.n]),(1,.row 6 101 (t0.l.map TNode.c)),(2,.row 1 3 (t0.free.map c_i64))] 3 (.tup [.agg (TEntry.c R.1),.bool R.2]) [(0,.box [.own 1 6 0 t0.l.length,.own 2 1 0 t0.free.length,.int .i64 t0.root,.int .i64 t0.n]),(1,.row 6 101 (t0.l.map TNode.c)),(2,.row 1 3 (t0.free.map c_i64))] 3:=by
 refine FnOk.wk i25 rfl rfl ?_
 unfold F25 at hR
 try dsimp only at hR
 change WK _ _ _ [ac25] _ ⟨[(0,.ptr 0 0),(1,.int .u32 a1)],[(0,.box [.own 1 6 0 t0.l.length,.own 2 1 0 t0.free.length,.int .i64 t0.root,.int .i64 t0.n]),(1,.row 6 101 (t0.l.map TNode.c)),(2,.row 1 3 (t0.free.map c_i64))],3⟩
 unfold ac25
 refine WK.sr mixed (GX.step (v':=.ptr 3 0) (zx:=[(0,.box [.own 1 6 0 t0.l.length,.own 2 1 0 t0.free.length,.int .i64 t0.root,.int .i64 t0.n]),(1,.row 6 101 (t0.l.map TNode.c)),(2,.row 1 3 (t0.free.map c_i64)),(3,.box [.int .u32 0,.int .i64 0,.int .i64 0])]) (zy:=4) rfl rfl rfl rfl rfl rfl rfl (GX.m rfl (GX.done (WK.sr mixed (GX.m rfl (GX.m rfl (GX.q (.agg [.int .u32 a1,.int .i64 32]) ?_)))))))
 obtain ⟨c10,hc10,hR⟩:=zz hR; try dsimp only at hR
 try dsimp only at hR
 refine GX.callx (r':=.ro 3 (c10.map TEntry.c)) (zx:=[(0,.box [.own 1 6 0 t0.l.length,.own 2 1 0 t0.free.length,.int .i64 t0.root,.int .i64 t0.n]),(1,.row 6 101 (t0.l.map TNode.c)),(2,.row 1 3 (t0.free.map c_i64)),(3,.box [.int .u32 0,.int .i64 0,.int .i64 0])]) (zy:=4) [0,1,2] [] rfl rfl rfl rfl rfl rfl (f42_ok t0 (⟨a1,32⟩ : qk) _ hc10) (.inl rfl) rfl rfl rfl (GX.m rfl (GX.done (WK.seq (WK.sr mixed (GX.m rfl (GX.pure (v':=.int .i64 (c10.length:Int)) rfl rfl rfl rfl (zj _ _) (GX.q (.bool (decide ((c10.length:Int) = 0))) (GX.done ?_))))))))
 rcases qq (decide ((c10.length:Int) = 0)) with hb2 | hb2
 ·rw [hb2]; first | replace hR:=wz hb2 hR | (try simp only [hb2,bb] at hR)
  refine WK.condF rfl (WK.skip (WK.sr mixed (GX.m rfl (GX.m rfl (GX.pure (v':=.int .i64 (c10.length:Int)) rfl rfl rfl rfl (zj _ _) (GX.q (.int .i64 (IntKind.i64.wrap ((c10.length:Int) - 1))) ?_))))))
  obtain ⟨x902,hx902,hR⟩:=zz hR; try dsimp only at hR
  obtain ⟨hx9020,hx902j,hx902l,hx902⟩:=zk hx902
  refine GX.idxT (c:=TEntry.c) (x:=x902) rfl rfl rfl hx9020 hx902 (GX.q (.agg (TEntry.c x902)) (GX.step0 (zx:=[(0,.box [.own 1 6 0 t0.l.length,.own 2 1 0 t0.free.length,.int .i64 t0.root,.int .i64 t0.n]),(1,.row 6 101 (t0.l.map TNode.c)),(2,.row 1 3 (t0.free.map c_i64)),(3,.box (TEntry.c x902))]) (zy:=4) rfl rfl rfl rfl rfl (GX.m rfl (GX.done (WK.ret ?_)))))
  obtain rfl:=Option.some.inj hR
  exact RetQ.ret [0,1,2] [] (.inr rfl) rfl rfl rfl rfl rfl .refl rfl
 ·rw [hb2]; first | replace hR:=wy hb2 hR | (try simp only [hb2,bb] at hR)
  refine WK.condT rfl (WK.sr mixed (GX.q (.agg [.int .u32 0,.int .i64 0,.int .i64 0]) (GX.step0 (zx:=[(0,.box [.own 1 6 0 t0.l.length,.own 2 1 0 t0.free.length,.int .i64 t0.root,.int .i64 t0.n]),(1,.row 6 101 (t0.l.map TNode.c)),(2,.row 1 3 (t0.free.map c_i64)),(3,.box [.int .u32 0,.int .i64 0,.int .i64 0])]) (zy:=4) rfl rfl rfl rfl rfl (GX.m rfl (GX.done (WK.ret ?_))))))
  obtain rfl:=Option.some.inj hR
  exact RetQ.ret [0,1,2] [] (.inr rfl) rfl rfl rfl rfl rfl .refl rfl
theorem f11_ok (f0:TFib) (a1:Int) (R:qk × (List THop) × Bool) (hR:F11 f0 a1 = some R):FnOk Tryz.prog 11 [.ptr 0 0,.int .u32 a1] [(0,.box [.ptr 1 0,.own 4 3 0 f0.sets.length,.mapr 5]),(1,.box [.own 2 6 0 f0.t.l.length,.own 3 1 0 f0.t.free.length,.int .i64 f0.t.root,.int .i64 f0.t.n]),(2,.row 6 101 (f0.t.l.map TNode.c)),(3,.row 1 3 (f0.t.free.map c_i64)),(4,.row 3 71 (f0.sets.map TGroup.c)),(5,.mq f0.atf.1 (f0.atf.2.map (encE (fun y=>.int .i64 y))))] 6 (.tup [.agg (qk.c R.1),.ro 2 (R.2.1.map THop.c),.bool R.2.2]) [(0,.box [.ptr 1 0,.own 4 3 0 f0.sets.length,.mapr 5]),(1,.box [.own 2 6 0 f0.t.l.length,.own 3 1 0 f0.t.free.length,.int .i64 f0.t.root,.int .i64 f0.t.n]),(2,.row 6 101 (f0.t.l.map TNode.c)),(3,.row 1 3 (f0.t.free.map c_i64)),(4,.row 3 71 (f0.sets.map TGroup.c)),(5,.mq f0.atf.1 (f0.atf.2.map (encE (fun y=>.int .i64 y))))] 6:=by
 refine FnOk.wk i11 rfl rfl ?_
 unfold F11 at hR
 try dsimp only at hR
 change WK _ _ _ [ac11] _ ⟨[(0,.ptr 0 0),(1,.int .u32 a1)],[(0,.box [.ptr 1 0,.own 4 3 0 f0.sets.length,.mapr 5]),(1,.box [.own 2 6 0 f0.t.l.length,.own 3 1 0 f0.t.free.length,.int .i64 f0.t.root,.int .i64 f0.t.n]),(2,.row 6 101 (f0.t.l.map TNode.c)),(3,.row 1 3 (f0.t.free.map c_i64)),(4,.row 3 71 (f0.sets.map TGroup.c)),(5,.mq f0.atf.1 (f0.atf.2.map (encE (fun y=>.int .i64 y))))],6⟩
 unfold ac11
 refine WK.sr mixed (GX.step (v':=.ptr 6 0) (zx:=[(0,.box [.ptr 1 0,.own 4 3 0 f0.sets.length,.mapr 5]),(1,.box [.own 2 6 0 f0.t.l.length,.own 3 1 0 f0.t.free.length,.int .i64 f0.t.root,.int .i64 f0.t.n]),(2,.row 6 101 (f0.t.l.map TNode.c)),(3,.row 1 3 (f0.t.free.map c_i64)),(4,.row 3 71 (f0.sets.map TGroup.c)),(5,.mq f0.atf.1 (f0.atf.2.map (encE (fun y=>.int .i64 y)))),(6,.box [.int .u32 0,.int .i64 0])]) (zy:=7) rfl rfl rfl rfl rfl rfl rfl (GX.m rfl (GX.m rfl (GX.done (WK.seq (WK.sr mixed (GX.m rfl (GX.q (.bool false) (GX.done (WK.condF rfl (WK.skip (WK.sr mixed (GX.m rfl ?_)))))))))))))
 refine GX.q (.ptr 0 0) (GX.q (.ptr 0 0) (GX.q (.ptr 1 0) (GX.m rfl ?_)))
 obtain ⟨c18,hc18,hR⟩:=zz hR; try dsimp only at hR
 refine GX.callx (r':=.tup [.agg (TEntry.c c18.1),.bool c18.2]) (zx:=[(0,.box [.ptr 1 0,.own 4 3 0 f0.sets.length,.mapr 5]),(1,.box [.own 2 6 0 f0.t.l.length,.own 3 1 0 f0.t.free.length,.int .i64 f0.t.root,.int .i64 f0.t.n]),(2,.row 6 101 (f0.t.l.map TNode.c)),(3,.row 1 3 (f0.t.free.map c_i64)),(4,.row 3 71 (f0.sets.map TGroup.c)),(5,.mq f0.atf.1 (f0.atf.2.map (encE (fun y=>.int .i64 y)))),(6,.box [.int .u32 0,.int .i64 0])]) (zy:=7) [1,2,3] [] rfl rfl rfl rfl rfl rfl (f25_ok f0.t a1 _ hc18) (.inl rfl) rfl rfl rfl (GX.m rfl (GX.q (.agg (TEntry.c c18.1)) (GX.q (.bool c18.2) (GX.step (v':=.ptr 7 0) (zx:=[(0,.box [.ptr 1 0,.own 4 3 0 f0.sets.length,.mapr 5]),(1,.box [.own 2 6 0 f0.t.l.length,.own 3 1 0 f0.t.free.length,.int .i64 f0.t.root,.int .i64 f0.t.n]),(2,.row 6 101 (f0.t.l.map TNode.c)),(3,.row 1 3 (f0.t.free.map c_i64)),(4,.row 3 71 (f0.sets.map TGroup.c)),(5,.mq f0.atf.1 (f0.atf.2.map (encE (fun y=>.int .i64 y)))),(6,.box [.int .u32 0,.int .i64 0]),(7,.box [.int .u32 0,.int .i64 0,.int .i64 0])]) (zy:=8) rfl rfl rfl rfl rfl rfl rfl (GX.step0 (zx:=[(0,.box [.ptr 1 0,.own 4 3 0 f0.sets.length,.mapr 5]),(1,.box [.own 2 6 0 f0.t.l.length,.own 3 1 0 f0.t.free.length,.int .i64 f0.t.root,.int .i64 f0.t.n]),(2,.row 6 101 (f0.t.l.map TNode.c)),(3,.row 1 3 (f0.t.free.map c_i64)),(4,.row 3 71 (f0.sets.map TGroup.c)),(5,.mq f0.atf.1 (f0.atf.2.map (encE (fun y=>.int .i64 y)))),(6,.box [.int .u32 0,.int .i64 0]),(7,.box (TEntry.c c18.1))]) (zy:=8) rfl rfl rfl rfl rfl (GX.m rfl (GX.done (WK.seq (WK.sr mixed (GX.m rfl (GX.q (.bool (!c18.2)) (GX.done ?_))))))))))))
 rcases qq (c18.2) with hb2 | hb2
 ·rw [hb2]; first | replace hR:=wz hb2 hR | (try simp only [hb2,bb] at hR)
  refine WK.condT rfl (WK.sr mixed (GX.q (.agg [.int .u32 0,.int .i64 0]) (GX.step0 (zx:=[(0,.box [.ptr 1 0,.own 4 3 0 f0.sets.length,.mapr 5]),(1,.box [.own 2 6 0 f0.t.l.length,.own 3 1 0 f0.t.free.length,.int .i64 f0.t.root,.int .i64 f0.t.n]),(2,.row 6 101 (f0.t.l.map TNode.c)),(3,.row 1 3 (f0.t.free.map c_i64)),(4,.row 3 71 (f0.sets.map TGroup.c)),(5,.mq f0.atf.1 (f0.atf.2.map (encE (fun y=>.int .i64 y)))),(6,.box [.int .u32 0,.int .i64 0]),(7,.box (TEntry.c c18.1))]) (zy:=8) rfl rfl rfl rfl rfl (GX.m rfl (GX.m rfl (GX.done (WK.ret ?_)))))))
  obtain rfl:=Option.some.inj hR
  exact RetQ.ret [0,1,2,3,4,5] [] (.inr rfl) rfl rfl rfl rfl rfl (.tup (.cons .refl (.cons .nil .refl))) rfl
 ·rw [hb2]; first | replace hR:=wy hb2 hR | (try simp only [hb2,bb] at hR)
  refine WK.condF rfl (WK.skip (WK.seq (WK.drawn mixed (RD.q (.ptr 7 0) (RD.q (.agg [.int .u32 c18.1.P.A,.int .i64 c18.1.P.N]) (RD.m rfl (RD.q (.ptr 0 0) (RD.q (.ptr 0 1) (RD.q (.own 4 3 0 f0.sets.length) (RD.q (.ptr 7 2) (RD.q (.int .i64 c18.1.V) ?_)))))))))))
  obtain ⟨x902,hx902,hR⟩:=zz hR; try dsimp only at hR
  obtain ⟨hx9020,hx902j,hx902l,hx902⟩:=zk hx902
  refine RD.pure (v':=.eptr 4 3 c18.1.V.toNat 0) rfl rfl rfl (core_idxoT (c:=TGroup.c) (L:=f0.sets) (j:=c18.1.V.toNat) rfl hx902j hx902l (by exact Nat.le_refl _)) rfl (RD.pure (v':=.eptr 4 3 c18.1.V.toNat 0) rfl rfl rfl (core_fldT (c:=TGroup.c) (L:=f0.sets) rfl (by omega) rfl) rfl (RD.pure (v':=.ro 2 (x902.hops.map THop.c)) rfl rfl rfl (core_loaT (c:=TGroup.c) (L:=f0.sets) (x:=x902) rfl hx902 rfl) rfl ?_))
  rcases qq (decide (x902.hops.length < 1099511627776)) with hg4 | hg4
  ·replace hR:=wz hg4 hR
   cases hR
  replace hR:=wy hg4 hR; try dsimp only at hR
  have hg4_:=of_decide_eq_true hg4
  refine RD.callx (r':=.own 8 2 0 x902.hops.length) (zx:=[(0,.box [.ptr 1 0,.own 4 3 0 f0.sets.length,.mapr 5]),(1,.box [.own 2 6 0 f0.t.l.length,.own 3 1 0 f0.t.free.length,.int .i64 f0.t.root,.int .i64 f0.t.n]),(2,.row 6 101 (f0.t.l.map TNode.c)),(3,.row 1 3 (f0.t.free.map c_i64)),(4,.row 3 71 (f0.sets.map TGroup.c)),(5,.mq f0.atf.1 (f0.atf.2.map (encE (fun y=>.int .i64 y)))),(6,.box [.int .u32 0,.int .i64 0]),(7,.box (TEntry.c c18.1)),(8,.row 2 63 (x902.hops.map THop.c))]) (zy:=9) [] [] rfl rfl rfl rfl rfl rfl (clone_okT (c:=THop.c) mixed i26 x902.hops (by decide) (by omega) (by omega)) (.inl rfl) rfl rfl rfl (RD.step0 (zx:=[(0,.box [.ptr 1 0,.own 4 3 0 f0.sets.length,.mapr 5]),(1,.box [.own 2 6 0 f0.t.l.length,.own 3 1 0 f0.t.free.length,.int .i64 f0.t.root,.int .i64 f0.t.n]),(2,.row 6 101 (f0.t.l.map TNode.c)),(3,.row 1 3 (f0.t.free.map c_i64)),(4,.row 3 71 (f0.sets.map TGroup.c)),(5,.mq f0.atf.1 (f0.atf.2.map (encE (fun y=>.int .i64 y)))),(6,.box (qk.c c18.1.P)),(7,.box (TEntry.c c18.1)),(8,.row 2 63 (x902.hops.map THop.c))]) (zy:=9) rfl rfl rfl rfl rfl (RD.m rfl (RD.m rfl (RD.done rfl (WK.ret ?_)))))
  obtain rfl:=Option.some.inj hR
  exact RetQ.ret [0,1,2,3,4,5] [8] (.inr rfl) rfl rfl rfl rfl (qz rfl (qz (view_rowT rfl rfl) (qz rfl qw))) .refl rfl
theorem f31_ok (t0:TTrie) (p1:qk) (R:Int × Bool) (hR:F31 t0 p1 = some R):FnOk Tryz.prog 31 [.ptr 0 0,.agg (qk.c p1)] [(0,.box [.own 1 6 0 t0.l.length,.own 2 1 0 t0.free.length,.int .i64 t0.root,.int .i64 t0.n]),(1,.row 6 101 (t0.l.map TNode.c)),(2,.row 1 3 (t0.free.map c_i64))] 3 (.tup [.int .i64 R.1,.bool R.2]) [(0,.box [.own 1 6 0 t0.l.length,.own 2 1 0 t0.free.length,.int .i64 t0.root,.int .i64 t0.n]),(1,.row 6 101 (t0.l.map TNode.c)),(2,.row 1 3 (t0.free.map c_i64))] 3:=by
 refine FnOk.wk i31 rfl rfl ?_
 unfold F31 at hR
 try dsimp only at hR
 change WK _ _ _ [ac31] _ ⟨[(0,.ptr 0 0),(1,.agg (qk.c p1))],[(0,.box [.own 1 6 0 t0.l.length,.own 2 1 0 t0.free.length,.int .i64 t0.root,.int .i64 t0.n]),(1,.row 6 101 (t0.l.map TNode.c)),(2,.row 1 3 (t0.free.map c_i64))],3⟩
 unfold ac31
 refine WK.sr mixed (GX.step (v':=.ptr 3 0) (zx:=[(0,.box [.own 1 6 0 t0.l.length,.own 2 1 0 t0.free.length,.int .i64 t0.root,.int .i64 t0.n]),(1,.row 6 101 (t0.l.map TNode.c)),(2,.row 1 3 (t0.free.map c_i64)),(3,.box (qk.c p1))]) (zy:=4) rfl rfl rfl rfl rfl rfl rfl (GX.m rfl (GX.m rfl (GX.done (WK.sr mixed (GX.m rfl (GX.q (.agg (qk.c p1)) ?_)))))))
 obtain ⟨c9,hc9,hR⟩:=zz hR; try dsimp only at hR
 try dsimp only at hR
 refine GX.callx (r':=.ro 3 (c9.map TEntry.c)) (zx:=[(0,.box [.own 1 6 0 t0.l.length,.own 2 1 0 t0.free.length,.int .i64 t0.root,.int .i64 t0.n]),(1,.row 6 101 (t0.l.map TNode.c)),(2,.row 1 3 (t0.free.map c_i64)),(3,.box (qk.c p1))]) (zy:=4) [0,1,2] [] rfl rfl rfl rfl rfl rfl (f42_ok t0 p1 _ hc9) (.inl rfl) rfl rfl rfl (GX.m rfl (GX.done (WK.seq (WK.seq (WK.drawn mixed (RD.m rfl (RD.pure (v':=.int .i64 (c9.length:Int)) rfl rfl rfl rfl (zj _ _) (RD.q (.bool (decide ((c9.length:Int) = 0))) (RD.m rfl ?_)))))))))
 rcases qq (decide ((c9.length:Int) = 0)) with hb2 | hb2
 ·rw [hb2]; first | replace hR:=wz hb2 hR | (try simp only [hb2,bb] at hR)
  refine RD.m rfl (RD.m rfl (RD.pure (v':=.int .i64 (c9.length:Int)) rfl rfl rfl rfl (zj _ _) (RD.q (.int .i64 (IntKind.i64.wrap ((c9.length:Int) - 1))) ?_)))
  obtain ⟨x902,hx902,hR⟩:=zz hR; try dsimp only at hR
  obtain ⟨hx9020,hx902j,hx902l,hx902⟩:=zk hx902
  refine RD.idxT (c:=TEntry.c) (x:=x902) rfl rfl rfl hx9020 hx902 ?_
  refine RD.q (.rptr (TEntry.c x902)) ?_
  refine RD.q (.agg [.int .u32 x902.P.A,.int .i64 x902.P.N]) ?_
  refine RD.q (.agg (qk.c p1)) ?_
  iterate 2 refine RD.q (.bool (!(decide (x902.P.A = p1.A) && (decide (x902.P.N = p1.N) && true)))) ?_
  refine RD.done rfl ?_
  rcases qq (decide (x902.P.A = p1.A) && (decide (x902.P.N = p1.N) && true)) with hb4 | hb4
  ·rw [hb4]; first | replace hR:=wz hb4 hR | (try simp only [hb4,bb] at hR)
   refine WK.condT rfl (WK.sr mixed (GX.m rfl (GX.m rfl (GX.done (WK.ret ?_)))))
   obtain rfl:=Option.some.inj hR
   exact RetQ.ret [0,1,2] [] (.inr rfl) rfl rfl rfl rfl rfl .refl rfl
  ·rw [hb4]; first | replace hR:=wy hb4 hR | (try simp only [hb4,bb] at hR)
   refine WK.condF rfl (WK.skip (WK.sr mixed (GX.m rfl (GX.m rfl (GX.pure (v':=.int .i64 (c9.length:Int)) rfl rfl rfl rfl (zj _ _) (GX.q (.int .i64 (IntKind.i64.wrap ((c9.length:Int) - 1))) (GX.idxT (c:=TEntry.c) (x:=x902) rfl rfl rfl hx9020 hx902 (GX.q (.rptr [.int .i64 x902.V]) (GX.q (.int .i64 x902.V) (GX.m rfl (GX.m rfl (GX.done (WK.ret ?_)))))))))))))
   obtain rfl:=Option.some.inj hR
   exact RetQ.ret [0,1,2] [] (.inr rfl) rfl rfl rfl rfl rfl .refl rfl
 ·rw [hb2]; first | replace hR:=wy hb2 hR | (try simp only [hb2,bb] at hR)
  iterate 9 refine RD.skip rfl rfl ?_
  refine RD.q (.bool true) (RD.done rfl (WK.condT rfl (WK.sr mixed (GX.m rfl (GX.m rfl (GX.done (WK.ret ?_)))))))
  obtain rfl:=Option.some.inj hR
  exact RetQ.ret [0,1,2] [] (.inr rfl) rfl rfl rfl rfl rfl .refl rfl
theorem f65_ok (t0:TTrie) (i1:Int) (R:Int × TTrie) (hR:F65 t0 i1 = some R):FnOk Tryz.prog 65 [.ptr 0 0,.int .i64 i1] [(0,.box [.own 1 6 0 t0.l.length,.own 2 1 0 t0.free.length,.int .i64 t0.root,.int .i64 t0.n]),(1,.row 6 101 (t0.l.map TNode.c)),(2,.row 1 3 (t0.free.map c_i64))] 3 (.int .i64 R.1) [(0,.box [.own 3 6 0 R.2.l.length,.own 4 1 0 R.2.free.length,.int .i64 R.2.root,.int .i64 R.2.n]),(3,.row 6 101 (R.2.l.map TNode.c)),(4,.row 1 3 (R.2.free.map c_i64))] 5:=by
 refine FnOk.wk i65 rfl rfl ?_
 unfold F65 at hR
 try dsimp only at hR
 change WK _ _ _ [ac65] _ ⟨[(0,.ptr 0 0),(1,.int .i64 i1)],[(0,.box [.own 1 6 0 t0.l.length,.own 2 1 0 t0.free.length,.int .i64 t0.root,.int .i64 t0.n]),(1,.row 6 101 (t0.l.map TNode.c)),(2,.row 1 3 (t0.free.map c_i64))],3⟩
 unfold ac65
 refine WK.mvB (id:=0) (j:=0) (zx:=[(0,.box [.own 3 6 0 t0.l.length,.own 2 1 0 t0.free.length,.int .i64 t0.root,.int .i64 t0.n]),(2,.row 1 3 (t0.free.map c_i64)),(3,.row 6 101 (t0.l.map TNode.c))]) rfl rfl rfl (by simp) rfl (WK.mvB (id:=0) (j:=1) (zx:=[(0,.box [.own 3 6 0 t0.l.length,.own 4 1 0 t0.free.length,.int .i64 t0.root,.int .i64 t0.n]),(3,.row 6 101 (t0.l.map TNode.c)),(4,.row 1 3 (t0.free.map c_i64))]) rfl rfl rfl (by simp) rfl (WK.sr mixed (GX.m rfl (GX.done (WK.sr mixed (GX.m rfl (GX.q (.ptr 0 0) (GX.q (.ptr 0 0) (GX.q (.own 3 6 0 t0.l.length) (GX.m rfl ?_))))))))))
 obtain ⟨x900,hx900,hR⟩:=zz hR; try dsimp only at hR
 obtain ⟨hx9000,hx900j,hx900l,hx900⟩:=zk hx900
 refine GX.pure (v':=.eptr 3 6 i1.toNat 0) rfl rfl rfl (core_idxoT (c:=TNode.c) (L:=t0.l) (j:=i1.toNat) rfl hx900j hx900l (by exact Nat.le_refl _)) rfl (GX.pure (v':=.agg (TNode.c x900)) rfl rfl rfl (core_loaT (c:=TNode.c) (L:=t0.l) (x:=x900) rfl hx900 rfl) rfl (GX.step (v':=.ptr 5 0) (zx:=[(0,.box [.own 3 6 0 t0.l.length,.own 4 1 0 t0.free.length,.int .i64 t0.root,.int .i64 t0.n]),(3,.row 6 101 (t0.l.map TNode.c)),(4,.row 1 3 (t0.free.map c_i64)),(5,.box [.int .u32 0,.int .i64 0,.int .i64 0,.bool false,.int .i64 0,.int .i64 0])]) (zy:=6) rfl rfl rfl rfl rfl rfl rfl (GX.step0 (zx:=[(0,.box [.own 3 6 0 t0.l.length,.own 4 1 0 t0.free.length,.int .i64 t0.root,.int .i64 t0.n]),(3,.row 6 101 (t0.l.map TNode.c)),(4,.row 1 3 (t0.free.map c_i64)),(5,.box (TNode.c x900))]) (zy:=6) rfl rfl rfl rfl rfl (GX.done (WK.seq (WK.sr mixed (GX.q (.ptr 5 3) (GX.q (.bool x900.isf) (GX.m rfl ?_)))))))))
 rcases qq (x900.isf) with hb2 | hb2
 ·rw [hb2]; first | replace hR:=wz hb2 hR | (try simp only [hb2,bb] at hR)
  refine GX.q (.ptr 5 4) (GX.q (.ptr 5 4) (GX.q (.int .i64 x900.kids.e0) (GX.q (.bool (!decide (x900.kids.e0 = (-1)))) (GX.m rfl ?_))))
  rcases qq (decide (x900.kids.e0 = (-1))) with hb3 | hb3
  ·rw [hb3]; first | replace hR:=wz hb3 hR | (try simp only [hb3,bb] at hR)
   refine GX.q (.ptr 5 4) ?_
   refine GX.q (.ptr 5 5) ?_
   refine GX.q (.int .i64 x900.kids.e1) ?_
   iterate 3 refine GX.q (.bool (!decide (x900.kids.e1 = (-1)))) ?_
   refine GX.done ?_
   rcases qq (decide (x900.kids.e1 = (-1))) with hb4 | hb4
   ·rw [hb4]; first | replace hR:=wz hb4 hR | (try simp only [hb4,bb] at hR)
    refine WK.condT rfl (WK.sr mixed (GX.m rfl (GX.m rfl (GX.done (WK.ret ?_)))))
    obtain rfl:=Option.some.inj hR
    exact RetQ.ret [0,1,2,3,4] [] (.inr rfl) rfl rfl rfl rfl rfl .refl rfl
   ·rw [hb4]; first | replace hR:=wy hb4 hR | (try simp only [hb4,bb] at hR)
    refine WK.condF rfl (WK.skip (WK.sr mixed (GX.m rfl (GX.m rfl (GX.q (.ptr 0 0) (GX.q (.ptr 0 1) (GX.q (.own 4 1 0 t0.free.length) (GX.m rfl (GX.step (v':=.own 6 1 0 (([i1]:List Int)).length) (zx:=[(0,.box [.own 3 6 0 t0.l.length,.own 4 1 0 t0.free.length,.int .i64 t0.root,.int .i64 t0.n]),(3,.row 6 101 (t0.l.map TNode.c)),(4,.row 1 3 (t0.free.map c_i64)),(5,.box (TNode.c x900)),(6,.row 1 3 (([i1]:List Int).map c_i64))]) (zy:=7) rfl rfl rfl rfl rfl rfl rfl ?_)))))))))
    rcases qq (decide (t0.free.length < 1099511627776)) with hg5 | hg5
    ·replace hR:=wz hg5 hR
     cases hR
    replace hR:=wy hg5 hR; try dsimp only at hR
    have hg5_:=of_decide_eq_true hg5
    refine GX.appT (c:=c_i64) (L:=t0.free) (X:=([i1]:List Int)) (zx:=[(0,.box [.own 3 6 0 t0.l.length,.own 4 1 0 t0.free.length,.int .i64 t0.root,.int .i64 t0.n]),(3,.row 6 101 (t0.l.map TNode.c)),(5,.box (TNode.c x900)),(6,.row 1 3 (([i1]:List Int).map c_i64)),(7,.row 1 3 ((t0.free ++ ([i1]:List Int)).map c_i64))]) (zy:=8) rfl rfl rfl rfl (elems_own rfl) (by ((try simp only [List.length_append,List.length_cons,List.length_nil,List.length_map,decide_eq_true_eq,decide_eq_false_iff_not] at *) <;> omega)) (by ((try simp only [List.length_append,List.length_cons,List.length_nil,List.length_map,decide_eq_true_eq,decide_eq_false_iff_not] at *) <;> omega)) rfl rfl rfl rfl (GX.q (.ptr 0 0) (GX.q (.ptr 0 1) (GX.step0 (zx:=[(0,.box [.own 3 6 0 t0.l.length,.own 7 1 0 (t0.free ++ ([i1]:List Int)).length,.int .i64 t0.root,.int .i64 t0.n]),(3,.row 6 101 (t0.l.map TNode.c)),(5,.box (TNode.c x900)),(6,.row 1 3 (([i1]:List Int).map c_i64)),(7,.row 1 3 ((t0.free ++ ([i1]:List Int)).map c_i64))]) (zy:=8) rfl rfl rfl rfl rfl (GX.done (WK.sr mixed (GX.q (.ptr 5 4) (GX.q (.ptr 5 4) (GX.q (.int .i64 x900.kids.e0) (GX.q (.ptr 5 4) (GX.q (.ptr 5 5) (GX.q (.int .i64 x900.kids.e1) (GX.q (.int .i64 (max_ x900.kids.e0 x900.kids.e1)) (GX.m rfl ?_)))))))))))))
    refine GX.done (WK.ret ?_)
    obtain rfl:=Option.some.inj hR
    exact RetQ.ret [0,1,2,3,7] [] (.inr rfl) rfl rfl rfl rfl rfl .refl rfl
  ·rw [hb3]; first | replace hR:=wy hb3 hR | (try simp only [hb3,bb] at hR)
   iterate 4 refine GX.skip rfl rfl ?_
   refine GX.q (.bool false) (GX.q (.bool false) (GX.done (WK.condF rfl (WK.skip (WK.sr mixed (GX.m rfl (GX.m rfl (GX.q (.ptr 0 0) (GX.q (.ptr 0 1) (GX.q (.own 4 1 0 t0.free.length) (GX.m rfl (GX.step (v':=.own 6 1 0 (([i1]:List Int)).length) (zx:=[(0,.box [.own 3 6 0 t0.l.length,.own 4 1 0 t0.free.length,.int .i64 t0.root,.int .i64 t0.n]),(3,.row 6 101 (t0.l.map TNode.c)),(4,.row 1 3 (t0.free.map c_i64)),(5,.box (TNode.c x900)),(6,.row 1 3 (([i1]:List Int).map c_i64))]) (zy:=7) rfl rfl rfl rfl rfl rfl rfl ?_))))))))))))
   rcases qq (decide (t0.free.length < 1099511627776)) with hg6 | hg6
   ·replace hR:=wz hg6 hR
    cases hR
   replace hR:=wy hg6 hR; try dsimp only at hR
   have hg6_:=of_decide_eq_true hg6
   refine GX.appT (c:=c_i64) (L:=t0.free) (X:=([i1]:List Int)) (zx:=[(0,.box [.own 3 6 0 t0.l.length,.own 4 1 0 t0.free.length,.int .i64 t0.root,.int .i64 t0.n]),(3,.row 6 101 (t0.l.map TNode.c)),(5,.box (TNode.c x900)),(6,.row 1 3 (([i1]:List Int).map c_i64)),(7,.row 1 3 ((t0.free ++ ([i1]:List Int)).map c_i64))]) (zy:=8) rfl rfl rfl rfl (elems_own rfl) (by ((try simp only [List.length_append,List.length_cons,List.length_nil,List.length_map,decide_eq_true_eq,decide_eq_false_iff_not] at *) <;> omega)) (by ((try simp only [List.length_append,List.length_cons,List.length_nil,List.length_map,decide_eq_true_eq,decide_eq_false_iff_not] at *) <;> omega)) rfl rfl rfl rfl (GX.q (.ptr 0 0) (GX.q (.ptr 0 1) (GX.step0 (zx:=[(0,.box [.own 3 6 0 t0.l.length,.own 7 1 0 (t0.free ++ ([i1]:List Int)).length,.int .i64 t0.root,.int .i64 t0.n]),(3,.row 6 101 (t0.l.map TNode.c)),(5,.box (TNode.c x900)),(6,.row 1 3 (([i1]:List Int).map c_i64)),(7,.row 1 3 ((t0.free ++ ([i1]:List Int)).map c_i64))]) (zy:=8) rfl rfl rfl rfl rfl (GX.done (WK.sr mixed (GX.q (.ptr 5 4) (GX.q (.ptr 5 4) (GX.q (.int .i64 x900.kids.e0) (GX.q (.ptr 5 4) (GX.q (.ptr 5 5) (GX.q (.int .i64 x900.kids.e1) (GX.q (.int .i64 (max_ x900.kids.e0 x900.kids.e1)) (GX.m rfl ?_)))))))))))))
   refine GX.done (WK.ret ?_)
   obtain rfl:=Option.some.inj hR
   exact RetQ.ret [0,1,2,3,7] [] (.inr rfl) rfl rfl rfl rfl rfl .refl rfl
 ·rw [hb2]; first | replace hR:=wy hb2 hR | (try simp only [hb2,bb] at hR)
  iterate 10 refine GX.skip rfl rfl ?_
  refine GX.q (.bool true) (GX.done (WK.condT rfl (WK.sr mixed (GX.m rfl (GX.m rfl (GX.done (WK.ret ?_)))))))
  obtain rfl:=Option.some.inj hR
  exact RetQ.ret [0,1,2,3,4] [] (.inr rfl) rfl rfl rfl rfl rfl .refl rfl
theorem f49_ok (fuel:Nat) : ∀ (t0:TTrie) (i1:Int) (p2:qk) (R:Int × TTrie) (hR:F49 fuel t0 i1 p2 = some R),FnOk Tryz.prog 49 [.ptr 0 0,.int .i64 i1,.agg (qk.c p2)] [(0,.box [.own 1 6 0 t0.l.length,.own 2 1 0 t0.free.length,.int .i64 t0.root,.int .i64 t0.n]),(1,.row 6 101 (t0.l.map TNode.c)),(2,.row 1 3 (t0.free.map c_i64))] 3 (.int .i64 R.1) [(0,.box [.own 3 6 0 R.2.l.length,.own 4 1 0 R.2.free.length,.int .i64 R.2.root,.int .i64 R.2.n]),(3,.row 6 101 (R.2.l.map TNode.c)),(4,.row 1 3 (R.2.free.map c_i64))] 5:=by
 induction fuel with
 | zero=>intro t0 i1 p2 R hR; cases hR
 | succ fuel ih =>
  intro t0 i1 p2 R hR
  refine FnOk.wk i49 rfl rfl ?_
  unfold F49 at hR
  try dsimp only at hR
  change WK _ _ _ [ac49] _ ⟨[(0,.ptr 0 0),(1,.int .i64 i1),(2,.agg (qk.c p2))],[(0,.box [.own 1 6 0 t0.l.length,.own 2 1 0 t0.free.length,.int .i64 t0.root,.int .i64 t0.n]),(1,.row 6 101 (t0.l.map TNode.c)),(2,.row 1 3 (t0.free.map c_i64))],3⟩
  unfold ac49
  refine WK.mvB (id:=0) (j:=0) (zx:=[(0,.box [.own 3 6 0 t0.l.length,.own 2 1 0 t0.free.length,.int .i64 t0.root,.int .i64 t0.n]),(2,.row 1 3 (t0.free.map c_i64)),(3,.row 6 101 (t0.l.map TNode.c))]) rfl rfl rfl (by simp) rfl (WK.mvB (id:=0) (j:=1) (zx:=[(0,.box [.own 3 6 0 t0.l.length,.own 4 1 0 t0.free.length,.int .i64 t0.root,.int .i64 t0.n]),(3,.row 6 101 (t0.l.map TNode.c)),(4,.row 1 3 (t0.free.map c_i64))]) rfl rfl rfl (by simp) rfl (WK.sr mixed (GX.step (v':=.ptr 5 0) (zx:=[(0,.box [.own 3 6 0 t0.l.length,.own 4 1 0 t0.free.length,.int .i64 t0.root,.int .i64 t0.n]),(3,.row 6 101 (t0.l.map TNode.c)),(4,.row 1 3 (t0.free.map c_i64)),(5,.box (qk.c p2))]) (zy:=6) rfl rfl rfl rfl rfl rfl rfl (GX.m rfl (GX.done (WK.seq (WK.seq (WK.drawn mixed (RD.m rfl (RD.q (.ptr 0 0) (RD.q (.ptr 0 0) (RD.q (.own 3 6 0 t0.l.length) (RD.m rfl ?_)))))))))))))
  obtain ⟨x900,hx900,hR⟩:=zz hR; try dsimp only at hR
  obtain ⟨hx9000,hx900j,hx900l,hx900⟩:=zk hx900
  refine RD.pure (v':=.eptr 3 6 i1.toNat 0) rfl rfl rfl (core_idxoT (c:=TNode.c) (L:=t0.l) (j:=i1.toNat) rfl hx900j hx900l (by exact Nat.le_refl _)) rfl (RD.pure (v':=.eptr 3 6 i1.toNat 0) rfl rfl rfl (core_fldT (c:=TNode.c) (L:=t0.l) rfl (by omega) rfl) rfl (RD.pure (v':=.agg [.int .u32 x900.p.A,.int .i64 x900.p.N]) rfl rfl rfl (core_loaT (c:=TNode.c) (L:=t0.l) (x:=x900) rfl hx900 rfl) rfl (RD.q (.agg (qk.c p2)) (RD.q (.bool (decide (x900.p.A = p2.A) && (decide (x900.p.N = p2.N) && true))) (RD.done rfl ?_)))))
  rcases qq ((decide (x900.p.A = p2.A) && (decide (x900.p.N = p2.N) && true))) with hb2 | hb2
  ·rw [hb2]; try simp only [hb2,bb] at hR
   refine WK.condF rfl (WK.skip (WK.seq (WK.drawn mixed (RD.m rfl (RD.q (.ptr 0 0) (RD.q (.ptr 0 0) (RD.q (.own 3 6 0 t0.l.length) (RD.m rfl (RD.pure (v':=.eptr 3 6 i1.toNat 0) rfl rfl rfl (core_idxoT (c:=TNode.c) (L:=t0.l) (j:=i1.toNat) rfl hx900j hx900l (by exact Nat.le_refl _)) rfl (RD.pure (v':=.eptr 3 6 i1.toNat 0) rfl rfl rfl (core_fldT (c:=TNode.c) (L:=t0.l) rfl (by omega) rfl) rfl (RD.pure (v':=.agg [.int .u32 x900.p.A,.int .i64 x900.p.N]) rfl rfl rfl (core_loaT (c:=TNode.c) (L:=t0.l) (x:=x900) rfl hx900 rfl) rfl (RD.q (.agg (qk.c p2)) ?_))))))))))))
   generalize hc45:F60 x900.p p2 = c45 at hR
   try dsimp only at hR
   refine RD.callp (r:=.int .i64 c45) rfl rfl rfl (f60_ok x900.p p2 _ hc45) rfl rfl (RD.m rfl (RD.done rfl (WK.seq (WK.drawn mixed (RD.m rfl (RD.m rfl (RD.q (.ptr 0 0) (RD.q (.ptr 0 0) (RD.q (.own 3 6 0 t0.l.length) (RD.m rfl (RD.m rfl (RD.pure (v':=.eptr 3 6 i1.toNat 0) rfl rfl rfl (core_idxoT (c:=TNode.c) (L:=t0.l) (j:=i1.toNat) rfl hx900j hx900l (by exact Nat.le_refl _)) rfl (RD.pure (v':=.eptr 3 6 i1.toNat 4) rfl rfl rfl (core_fldT (c:=TNode.c) (L:=t0.l) rfl (by omega) rfl) rfl ?_)))))))))))))
   rcases Bool.eq_false_or_eq_true (decide (c45 = 0)) with hk3b | hk3b
   ·simp only [hk3b,bb] at hR
    have hk3:=of_decide_eq_true hk3b
    refine RD.pure (v':=.eptr 3 6 i1.toNat 4) rfl rfl rfl (core_idxAAe (c:=TNode.c) (L:=t0.l) (k:=0) rfl hk3 rfl (by omega) rfl) rfl (RD.pure (v':=.int .i64 x900.kids.e0) rfl rfl rfl (core_loaT (c:=TNode.c) (L:=t0.l) (x:=x900) rfl hx900 rfl) rfl (RD.q (.agg (qk.c p2)) ?_))
    obtain ⟨c58,hc58,hR⟩:=zz hR; try dsimp only at hR
    refine RD.callx (r':=.int .i64 c58.1) (zx:=[(0,.box [.own 6 6 0 c58.2.l.length,.own 7 1 0 c58.2.free.length,.int .i64 c58.2.root,.int .i64 c58.2.n]),(5,.box (qk.c p2)),(7,.row 1 3 (c58.2.free.map c_i64)),(6,.row 6 101 (c58.2.l.map TNode.c))]) (zy:=8) [0,3,4] [] rfl rfl rfl rfl rfl rfl (ih t0 x900.kids.e0 p2 _ hc58) (.inl rfl) rfl rfl rfl (RD.m rfl (RD.done rfl (WK.sr mixed (GX.m rfl (GX.q (.ptr 0 0) (GX.q (.ptr 0 0) (GX.q (.own 6 6 0 c58.2.l.length) (GX.m rfl (GX.m rfl (GX.m rfl ?_))))))))))
    obtain ⟨x904,hx904,hR⟩:=zz hR; try dsimp only at hR
    obtain ⟨hx9040,hx904j,hx904l,hx904⟩:=zk hx904
    refine GX.pure (v':=.eptr 6 6 i1.toNat 0) rfl rfl rfl (core_idxoT (c:=TNode.c) (L:=c58.2.l) (j:=i1.toNat) rfl hx904j hx904l (by exact Nat.le_refl _)) rfl (GX.pure (v':=.eptr 6 6 i1.toNat 4) rfl rfl rfl (core_fldT (c:=TNode.c) (L:=c58.2.l) rfl (by omega) rfl) rfl (GX.pure (v':=.eptr 6 6 i1.toNat 4) rfl rfl rfl (core_idxAAe (c:=TNode.c) (L:=c58.2.l) (k:=0) rfl hk3 rfl (by omega) rfl) rfl (GX.step0 (zx:=[(0,.box [.own 6 6 0 c58.2.l.length,.own 7 1 0 c58.2.free.length,.int .i64 c58.2.root,.int .i64 c58.2.n]),(5,.box (qk.c p2)),(7,.row 1 3 (c58.2.free.map c_i64)),(6,.row 6 101 ((c58.2.l.set i1.toNat (⟨x904.p,x904.v,x904.isf,(⟨c58.1,x904.kids.e1⟩ : TS)⟩ : TNode)).map TNode.c))]) (zy:=8) rfl rfl (core_stoT (c:=TNode.c) (L:=c58.2.l) (x:=x904) (x':=(⟨x904.p,x904.v,x904.isf,(⟨c58.1,x904.kids.e1⟩ : TS)⟩ : TNode)) rfl hx904 rfl rfl rfl rfl rfl) rfl rfl (GX.done (WK.sr mixed (GX.m rfl (GX.m rfl ?_)))))))
    obtain ⟨c71,hc71,hR⟩:=zz hR; try dsimp only at hR
    refine GX.callx (r':=.int .i64 c71.1) (zx:=[(0,.box [.own 8 6 0 c71.2.l.length,.own 9 1 0 c71.2.free.length,.int .i64 c71.2.root,.int .i64 c71.2.n]),(5,.box (qk.c p2)),(9,.row 1 3 (c71.2.free.map c_i64)),(8,.row 6 101 (c71.2.l.map TNode.c))]) (zy:=10) [0,6,7] [] rfl rfl rfl rfl rfl rfl (by have hst:=(f65_ok (⟨(c58.2.l.set i1.toNat (⟨x904.p,x904.v,x904.isf,(⟨c58.1,x904.kids.e1⟩ : TS)⟩ : TNode)),c58.2.free,c58.2.root,c58.2.n⟩ : TTrie) i1 _ hc71); simp only [List.length_set] at hst; exact hst) (.inl rfl) rfl rfl rfl (GX.m rfl (GX.done (WK.ret ?_)))
    obtain rfl:=Option.some.inj hR
    exact RetQ.ret [0,1,2,8,9] [] (.inr rfl) rfl rfl rfl rfl rfl .refl rfl
   simp only [hk3b,bb] at hR
   rcases Bool.eq_false_or_eq_true (decide (c45 = 1)) with hk7b | hk7b
   ·simp only [hk7b,bb] at hR
    have hk7:=of_decide_eq_true hk7b
    refine RD.pure (v':=.eptr 3 6 i1.toNat 5) rfl rfl rfl (core_idxAAe (c:=TNode.c) (L:=t0.l) (k:=1) rfl hk7 rfl (by omega) rfl) rfl (RD.pure (v':=.int .i64 x900.kids.e1) rfl rfl rfl (core_loaT (c:=TNode.c) (L:=t0.l) (x:=x900) rfl hx900 rfl) rfl (RD.q (.agg (qk.c p2)) ?_))
    obtain ⟨c58,hc58,hR⟩:=zz hR; try dsimp only at hR
    refine RD.callx (r':=.int .i64 c58.1) (zx:=[(0,.box [.own 6 6 0 c58.2.l.length,.own 7 1 0 c58.2.free.length,.int .i64 c58.2.root,.int .i64 c58.2.n]),(5,.box (qk.c p2)),(7,.row 1 3 (c58.2.free.map c_i64)),(6,.row 6 101 (c58.2.l.map TNode.c))]) (zy:=8) [0,3,4] [] rfl rfl rfl rfl rfl rfl (ih t0 x900.kids.e1 p2 _ hc58) (.inl rfl) rfl rfl rfl (RD.m rfl (RD.done rfl (WK.sr mixed (GX.m rfl (GX.q (.ptr 0 0) (GX.q (.ptr 0 0) (GX.q (.own 6 6 0 c58.2.l.length) (GX.m rfl (GX.m rfl (GX.m rfl ?_))))))))))
    obtain ⟨x908,hx908,hR⟩:=zz hR; try dsimp only at hR
    obtain ⟨hx9080,hx908j,hx908l,hx908⟩:=zk hx908
    refine GX.pure (v':=.eptr 6 6 i1.toNat 0) rfl rfl rfl (core_idxoT (c:=TNode.c) (L:=c58.2.l) (j:=i1.toNat) rfl hx908j hx908l (by exact Nat.le_refl _)) rfl (GX.pure (v':=.eptr 6 6 i1.toNat 4) rfl rfl rfl (core_fldT (c:=TNode.c) (L:=c58.2.l) rfl (by omega) rfl) rfl (GX.pure (v':=.eptr 6 6 i1.toNat 5) rfl rfl rfl (core_idxAAe (c:=TNode.c) (L:=c58.2.l) (k:=1) rfl hk7 rfl (by omega) rfl) rfl (GX.step0 (zx:=[(0,.box [.own 6 6 0 c58.2.l.length,.own 7 1 0 c58.2.free.length,.int .i64 c58.2.root,.int .i64 c58.2.n]),(5,.box (qk.c p2)),(7,.row 1 3 (c58.2.free.map c_i64)),(6,.row 6 101 ((c58.2.l.set i1.toNat (⟨x908.p,x908.v,x908.isf,(⟨x908.kids.e0,c58.1⟩ : TS)⟩ : TNode)).map TNode.c))]) (zy:=8) rfl rfl (core_stoT (c:=TNode.c) (L:=c58.2.l) (x:=x908) (x':=(⟨x908.p,x908.v,x908.isf,(⟨x908.kids.e0,c58.1⟩ : TS)⟩ : TNode)) rfl hx908 rfl rfl rfl rfl rfl) rfl rfl (GX.done (WK.sr mixed (GX.m rfl (GX.m rfl ?_)))))))
    obtain ⟨c71,hc71,hR⟩:=zz hR; try dsimp only at hR
    refine GX.callx (r':=.int .i64 c71.1) (zx:=[(0,.box [.own 8 6 0 c71.2.l.length,.own 9 1 0 c71.2.free.length,.int .i64 c71.2.root,.int .i64 c71.2.n]),(5,.box (qk.c p2)),(9,.row 1 3 (c71.2.free.map c_i64)),(8,.row 6 101 (c71.2.l.map TNode.c))]) (zy:=10) [0,6,7] [] rfl rfl rfl rfl rfl rfl (by have hst:=(f65_ok (⟨(c58.2.l.set i1.toNat (⟨x908.p,x908.v,x908.isf,(⟨x908.kids.e0,c58.1⟩ : TS)⟩ : TNode)),c58.2.free,c58.2.root,c58.2.n⟩ : TTrie) i1 _ hc71); simp only [List.length_set] at hst; exact hst) (.inl rfl) rfl rfl rfl (GX.m rfl (GX.done (WK.ret ?_)))
    obtain rfl:=Option.some.inj hR
    exact RetQ.ret [0,1,2,8,9] [] (.inr rfl) rfl rfl rfl rfl rfl .refl rfl
   simp only [hk7b,bb] at hR
   cases hR
  ·rw [hb2]; try simp only [hb2,bb] at hR
   refine WK.condT rfl (WK.seq (WK.drawn mixed (RD.m rfl (RD.q (.ptr 0 0) (RD.q (.ptr 0 0) (RD.q (.own 3 6 0 t0.l.length) (RD.m rfl (RD.m rfl (RD.q (.ptr 0 0) (RD.q (.ptr 0 0) (RD.q (.own 3 6 0 t0.l.length) (RD.m rfl (RD.pure (v':=.eptr 3 6 i1.toNat 0) rfl rfl rfl (core_idxoT (c:=TNode.c) (L:=t0.l) (j:=i1.toNat) rfl hx900j hx900l (by exact Nat.le_refl _)) rfl ?_)))))))))))))
   refine RD.pure (v':=.eptr 3 6 i1.toNat 3) rfl rfl rfl (core_fldT (c:=TNode.c) (L:=t0.l) rfl (by omega) rfl) rfl (RD.step0 (zx:=[(0,.box [.own 3 6 0 t0.l.length,.own 4 1 0 t0.free.length,.int .i64 t0.root,.int .i64 t0.n]),(3,.row 6 101 ((t0.l.set i1.toNat (⟨x900.p,x900.v,false,x900.kids⟩ : TNode)).map TNode.c)),(4,.row 1 3 (t0.free.map c_i64)),(5,.box (qk.c p2))]) (zy:=6) rfl rfl (core_stoT (c:=TNode.c) (L:=t0.l) (x:=x900) (x':=(⟨x900.p,x900.v,false,x900.kids⟩ : TNode)) rfl hx900 rfl rfl rfl rfl rfl) rfl rfl (RD.pure (v':=.eptr 3 6 i1.toNat 0) rfl rfl rfl (core_idxoT (c:=TNode.c) (L:=(t0.l.set i1.toNat (⟨x900.p,x900.v,false,x900.kids⟩ : TNode))) (j:=i1.toNat) rfl hx900j (by first | exact hx900l | exact set_lt hx900l) (by simp)) rfl (RD.pure (v':=.eptr 3 6 i1.toNat 2) rfl rfl rfl (core_fldT (c:=TNode.c) (L:=(t0.l.set i1.toNat (⟨x900.p,x900.v,false,x900.kids⟩ : TNode))) rfl (by (simp only [List.length_set]; omega)) rfl) rfl (RD.step0 (zx:=[(0,.box [.own 3 6 0 t0.l.length,.own 4 1 0 t0.free.length,.int .i64 t0.root,.int .i64 t0.n]),(3,.row 6 101 (((t0.l.set i1.toNat (⟨x900.p,x900.v,false,x900.kids⟩ : TNode)).set i1.toNat (⟨((⟨x900.p,x900.v,false,x900.kids⟩ : TNode).p),0,(⟨x900.p,x900.v,false,x900.kids⟩ : TNode).isf,((⟨x900.p,x900.v,false,x900.kids⟩ : TNode).kids)⟩ : TNode)).map TNode.c)),(4,.row 1 3 (t0.free.map c_i64)),(5,.box (qk.c p2))]) (zy:=6) rfl rfl (core_stoT (c:=TNode.c) (L:=(t0.l.set i1.toNat (⟨x900.p,x900.v,false,x900.kids⟩ : TNode))) (x:=(⟨x900.p,x900.v,false,x900.kids⟩ : TNode)) (x':=(⟨((⟨x900.p,x900.v,false,x900.kids⟩ : TNode).p),0,(⟨x900.p,x900.v,false,x900.kids⟩ : TNode).isf,((⟨x900.p,x900.v,false,x900.kids⟩ : TNode).kids)⟩ : TNode)) rfl (set_at hx900) rfl rfl rfl rfl rfl) rfl rfl (RD.done rfl (WK.sr mixed (GX.m rfl (GX.m rfl ?_))))))))
   obtain ⟨c35,hc35,hR⟩:=zz hR; try dsimp only at hR
   refine GX.callx (r':=.int .i64 c35.1) (zx:=[(0,.box [.own 6 6 0 c35.2.l.length,.own 7 1 0 c35.2.free.length,.int .i64 c35.2.root,.int .i64 c35.2.n]),(5,.box (qk.c p2)),(7,.row 1 3 (c35.2.free.map c_i64)),(6,.row 6 101 (c35.2.l.map TNode.c))]) (zy:=8) [0,3,4] [] rfl rfl rfl rfl rfl rfl (by have hst:=(f65_ok (⟨((t0.l.set i1.toNat (⟨x900.p,x900.v,false,x900.kids⟩ : TNode)).set i1.toNat (⟨((⟨x900.p,x900.v,false,x900.kids⟩ : TNode).p),0,(⟨x900.p,x900.v,false,x900.kids⟩ : TNode).isf,((⟨x900.p,x900.v,false,x900.kids⟩ : TNode).kids)⟩ : TNode)),t0.free,t0.root,t0.n⟩ : TTrie) i1 _ hc35); simp only [List.length_set] at hst; exact hst) (.inl rfl) rfl rfl rfl (GX.m rfl (GX.done (WK.ret ?_)))
   obtain rfl:=Option.some.inj hR
   exact RetQ.ret [0,1,2,6,7] [] (.inr rfl) rfl rfl rfl rfl rfl .refl rfl
theorem f32_ok (t0:TTrie) (p1:qk) (R:Bool × TTrie) (hR:F32 t0 p1 = some R):FnOk Tryz.prog 32 [.ptr 0 0,.agg (qk.c p1)] [(0,.box [.own 1 6 0 t0.l.length,.own 2 1 0 t0.free.length,.int .i64 t0.root,.int .i64 t0.n]),(1,.row 6 101 (t0.l.map TNode.c)),(2,.row 1 3 (t0.free.map c_i64))] 3 (.bool R.1) [(0,.box [.own 3 6 0 R.2.l.length,.own 4 1 0 R.2.free.length,.int .i64 R.2.root,.int .i64 R.2.n]),(3,.row 6 101 (R.2.l.map TNode.c)),(4,.row 1 3 (R.2.free.map c_i64))] 5:=by
 refine FnOk.wk i32 rfl rfl ?_
 unfold F32 at hR
 try dsimp only at hR
 change WK _ _ _ [ac32] _ ⟨[(0,.ptr 0 0),(1,.agg (qk.c p1))],[(0,.box [.own 1 6 0 t0.l.length,.own 2 1 0 t0.free.length,.int .i64 t0.root,.int .i64 t0.n]),(1,.row 6 101 (t0.l.map TNode.c)),(2,.row 1 3 (t0.free.map c_i64))],3⟩
 unfold ac32
 refine WK.mvB (id:=0) (j:=0) (zx:=[(0,.box [.own 3 6 0 t0.l.length,.own 2 1 0 t0.free.length,.int .i64 t0.root,.int .i64 t0.n]),(2,.row 1 3 (t0.free.map c_i64)),(3,.row 6 101 (t0.l.map TNode.c))]) rfl rfl rfl (by simp) rfl (WK.mvB (id:=0) (j:=1) (zx:=[(0,.box [.own 3 6 0 t0.l.length,.own 4 1 0 t0.free.length,.int .i64 t0.root,.int .i64 t0.n]),(3,.row 6 101 (t0.l.map TNode.c)),(4,.row 1 3 (t0.free.map c_i64))]) rfl rfl rfl (by simp) rfl (WK.sr mixed (GX.step (v':=.ptr 5 0) (zx:=[(0,.box [.own 3 6 0 t0.l.length,.own 4 1 0 t0.free.length,.int .i64 t0.root,.int .i64 t0.n]),(3,.row 6 101 (t0.l.map TNode.c)),(4,.row 1 3 (t0.free.map c_i64)),(5,.box (qk.c p1))]) (zy:=6) rfl rfl rfl rfl rfl rfl rfl (GX.m rfl (GX.done (WK.seq (WK.sr mixed (GX.m rfl (GX.q (.agg (qk.c p1)) ?_)))))))))
 obtain ⟨c10,hc10,hR⟩:=zz hR; try dsimp only at hR
 refine GX.callx (r':=.tup [.int .i64 c10.1,.bool c10.2]) (zx:=[(0,.box [.own 3 6 0 t0.l.length,.own 4 1 0 t0.free.length,.int .i64 t0.root,.int .i64 t0.n]),(3,.row 6 101 (t0.l.map TNode.c)),(4,.row 1 3 (t0.free.map c_i64)),(5,.box (qk.c p1))]) (zy:=6) [0,3,4] [] rfl rfl rfl rfl rfl rfl (f31_ok t0 p1 _ hc10) (.inl rfl) rfl rfl rfl (GX.m rfl (GX.q (.int .i64 c10.1) (GX.q (.bool c10.2) (GX.m rfl (GX.m rfl (GX.done (WK.sr mixed (GX.m rfl (GX.q (.bool (!c10.2)) (GX.done ?_))))))))))
 rcases qq (c10.2) with hb2 | hb2
 ·rw [hb2]; first | replace hR:=wz hb2 hR | (try simp only [hb2,bb] at hR)
  refine WK.condT rfl (WK.sr mixed (GX.m rfl (GX.done (WK.ret ?_))))
  obtain rfl:=Option.some.inj hR
  exact RetQ.ret [0,1,2,3,4] [] (.inr rfl) rfl rfl rfl rfl rfl .refl rfl
 ·rw [hb2]; first | replace hR:=wy hb2 hR | (try simp only [hb2,bb] at hR)
  refine WK.condF rfl (WK.skip (WK.sr mixed (GX.m rfl (GX.q (.ptr 0 0) (GX.q (.ptr 0 3) (GX.q (.int .i64 t0.n) (GX.q (.int .i64 (IntKind.i64.wrap (t0.n - 1))) (GX.q (.ptr 0 0) (GX.q (.ptr 0 3) (GX.step0 (zx:=[(0,.box [.own 3 6 0 t0.l.length,.own 4 1 0 t0.free.length,.int .i64 t0.root,.int .i64 (IntKind.i64.wrap (t0.n - 1))]),(3,.row 6 101 (t0.l.map TNode.c)),(4,.row 1 3 (t0.free.map c_i64)),(5,.box (qk.c p1))]) (zy:=6) rfl rfl rfl rfl rfl (GX.done (WK.seq (WK.drawn mixed ?_)))))))))))))
  refine RD.m rfl (RD.m rfl (RD.m rfl (RD.q (.ptr 0 0) (RD.q (.ptr 0 2) (RD.q (.int .i64 t0.root) (RD.q (.agg (qk.c p1)) ?_))))))
  obtain ⟨c29,hc29,hR⟩:=zz hR; try dsimp only at hR
  refine RD.callx (r':=.int .i64 c29.1) (zx:=[(0,.box [.own 6 6 0 c29.2.l.length,.own 7 1 0 c29.2.free.length,.int .i64 c29.2.root,.int .i64 c29.2.n]),(5,.box (qk.c p1)),(7,.row 1 3 (c29.2.free.map c_i64)),(6,.row 6 101 (c29.2.l.map TNode.c))]) (zy:=8) [0,3,4] [] rfl rfl rfl rfl rfl rfl (f49_ok 100 (⟨t0.l,t0.free,t0.root,IntKind.i64.wrap (t0.n - 1)⟩ : TTrie) t0.root p1 _ hc29) (.inl rfl) rfl rfl rfl (RD.q (.ptr 0 0) (RD.q (.ptr 0 2) (RD.step0 (zx:=[(0,.box [.own 6 6 0 c29.2.l.length,.own 7 1 0 c29.2.free.length,.int .i64 c29.1,.int .i64 c29.2.n]),(5,.box (qk.c p1)),(7,.row 1 3 (c29.2.free.map c_i64)),(6,.row 6 101 (c29.2.l.map TNode.c))]) (zy:=8) rfl rfl rfl rfl rfl (RD.done rfl (WK.sr mixed (GX.m rfl (GX.done (WK.ret ?_))))))))
  obtain rfl:=Option.some.inj hR
  exact RetQ.ret [0,1,2,6,7] [] (.inr rfl) rfl rfl rfl rfl rfl .refl rfl
theorem f33_ok (f0:TFib) (n1:Int) (R:TFib) (hR:F33 f0 n1 = some R):FnOk Tryz.prog 33 [.ptr 0 0,.int .i64 n1] [(0,.box [.ptr 1 0,.own 4 3 0 f0.sets.length,.mapr 5]),(1,.box [.own 2 6 0 f0.t.l.length,.own 3 1 0 f0.t.free.length,.int .i64 f0.t.root,.int .i64 f0.t.n]),(2,.row 6 101 (f0.t.l.map TNode.c)),(3,.row 1 3 (f0.t.free.map c_i64)),(4,.row 3 71 (f0.sets.map TGroup.c)),(5,.mq f0.atf.1 (f0.atf.2.map (encE (fun y=>.int .i64 y))))] 6 (.tup []) [(0,.box [.ptr 1 0,.own 8 3 0 R.sets.length,.mapr 5]),(1,.box [.own 6 6 0 R.t.l.length,.own 7 1 0 R.t.free.length,.int .i64 R.t.root,.int .i64 R.t.n]),(5,.mq R.atf.1 (R.atf.2.map (encE (fun y=>.int .i64 y)))),(6,.row 6 101 (R.t.l.map TNode.c)),(7,.row 1 3 (R.t.free.map c_i64)),(8,.row 3 71 (R.sets.map TGroup.c))] 9:=by
 refine FnOk.wk i33 rfl rfl ?_
 unfold F33 at hR
 try dsimp only at hR
 change WK _ _ _ [ac33] _ ⟨[(0,.ptr 0 0),(1,.int .i64 n1)],[(0,.box [.ptr 1 0,.own 4 3 0 f0.sets.length,.mapr 5]),(1,.box [.own 2 6 0 f0.t.l.length,.own 3 1 0 f0.t.free.length,.int .i64 f0.t.root,.int .i64 f0.t.n]),(2,.row 6 101 (f0.t.l.map TNode.c)),(3,.row 1 3 (f0.t.free.map c_i64)),(4,.row 3 71 (f0.sets.map TGroup.c)),(5,.mq f0.atf.1 (f0.atf.2.map (encE (fun y=>.int .i64 y))))],6⟩
 unfold ac33
 refine WK.mvB (id:=1) (j:=0) (zx:=[(0,.box [.ptr 1 0,.own 4 3 0 f0.sets.length,.mapr 5]),(1,.box [.own 6 6 0 f0.t.l.length,.own 3 1 0 f0.t.free.length,.int .i64 f0.t.root,.int .i64 f0.t.n]),(3,.row 1 3 (f0.t.free.map c_i64)),(4,.row 3 71 (f0.sets.map TGroup.c)),(5,.mq f0.atf.1 (f0.atf.2.map (encE (fun y=>.int .i64 y)))),(6,.row 6 101 (f0.t.l.map TNode.c))]) rfl rfl rfl (by simp) rfl (WK.mvB (id:=1) (j:=1) (zx:=[(0,.box [.ptr 1 0,.own 4 3 0 f0.sets.length,.mapr 5]),(1,.box [.own 6 6 0 f0.t.l.length,.own 7 1 0 f0.t.free.length,.int .i64 f0.t.root,.int .i64 f0.t.n]),(4,.row 3 71 (f0.sets.map TGroup.c)),(5,.mq f0.atf.1 (f0.atf.2.map (encE (fun y=>.int .i64 y)))),(6,.row 6 101 (f0.t.l.map TNode.c)),(7,.row 1 3 (f0.t.free.map c_i64))]) rfl rfl rfl (by simp) rfl (WK.mvB (id:=0) (j:=1) (zx:=[(0,.box [.ptr 1 0,.own 8 3 0 f0.sets.length,.mapr 5]),(1,.box [.own 6 6 0 f0.t.l.length,.own 7 1 0 f0.t.free.length,.int .i64 f0.t.root,.int .i64 f0.t.n]),(5,.mq f0.atf.1 (f0.atf.2.map (encE (fun y=>.int .i64 y)))),(6,.row 6 101 (f0.t.l.map TNode.c)),(7,.row 1 3 (f0.t.free.map c_i64)),(8,.row 3 71 (f0.sets.map TGroup.c))]) rfl rfl rfl (by simp) rfl (WK.sr mixed (GX.m rfl (GX.q (.ptr 0 0) (GX.q (.ptr 0 1) (GX.q (.own 8 3 0 f0.sets.length) (GX.m rfl ?_))))))))
 obtain ⟨x900,hx900,hR⟩:=zz hR; try dsimp only at hR
 obtain ⟨hx9000,hx900j,hx900l,hx900⟩:=zk hx900
 refine GX.pure (v':=.eptr 8 3 n1.toNat 0) rfl rfl rfl (core_idxoT (c:=TGroup.c) (L:=f0.sets) (j:=n1.toNat) rfl hx900j hx900l (by exact Nat.le_refl _)) rfl (GX.m rfl (GX.done (WK.sr mixed (GX.m rfl (GX.pure (v':=.eptr 8 3 n1.toNat 0) rfl rfl rfl (core_nilT (c:=TGroup.c) (L:=f0.sets) rfl (by omega)) rfl (GX.pure (v':=.eptr 8 3 n1.toNat 2) rfl rfl rfl (core_fldT (c:=TGroup.c) (L:=f0.sets) rfl (by omega) rfl) rfl (GX.pure (v':=.int .i64 x900.many) rfl rfl rfl (core_loaT (c:=TGroup.c) (L:=f0.sets) (x:=x900) rfl hx900 rfl) rfl (GX.q (.int .i64 (IntKind.i64.wrap (x900.many - 1))) (GX.pure (v':=.eptr 8 3 n1.toNat 0) rfl rfl rfl (core_nilT (c:=TGroup.c) (L:=f0.sets) rfl (by omega)) rfl (GX.pure (v':=.eptr 8 3 n1.toNat 2) rfl rfl rfl (core_fldT (c:=TGroup.c) (L:=f0.sets) rfl (by omega) rfl) rfl (GX.step0 (zx:=[(0,.box [.ptr 1 0,.own 8 3 0 f0.sets.length,.mapr 5]),(1,.box [.own 6 6 0 f0.t.l.length,.own 7 1 0 f0.t.free.length,.int .i64 f0.t.root,.int .i64 f0.t.n]),(5,.mq f0.atf.1 (f0.atf.2.map (encE (fun y=>.int .i64 y)))),(6,.row 6 101 (f0.t.l.map TNode.c)),(7,.row 1 3 (f0.t.free.map c_i64)),(8,.row 3 71 ((f0.sets.set n1.toNat (⟨x900.hops,x900.text,IntKind.i64.wrap (x900.many - 1)⟩ : TGroup)).map TGroup.c))]) (zy:=9) rfl rfl (core_stoT (c:=TGroup.c) (L:=f0.sets) (x:=x900) (x':=(⟨x900.hops,x900.text,IntKind.i64.wrap (x900.many - 1)⟩ : TGroup)) rfl hx900 rfl rfl rfl rfl rfl) rfl rfl (GX.done (WK.sr mixed ?_)))))))))))))
 refine GX.m rfl (GX.pure (v':=.eptr 8 3 n1.toNat 0) rfl rfl rfl (core_nilT (c:=TGroup.c) (L:=(f0.sets.set n1.toNat (⟨x900.hops,x900.text,IntKind.i64.wrap (x900.many - 1)⟩ : TGroup))) rfl (by (simp only [List.length_set]; omega))) rfl (GX.pure (v':=.eptr 8 3 n1.toNat 2) rfl rfl rfl (core_fldT (c:=TGroup.c) (L:=(f0.sets.set n1.toNat (⟨x900.hops,x900.text,IntKind.i64.wrap (x900.many - 1)⟩ : TGroup))) rfl (by (simp only [List.length_set]; omega)) rfl) rfl (GX.pure (v':=.int .i64 ((⟨x900.hops,x900.text,IntKind.i64.wrap (x900.many - 1)⟩ : TGroup).many)) rfl rfl rfl (core_loaT (c:=TGroup.c) (L:=(f0.sets.set n1.toNat (⟨x900.hops,x900.text,IntKind.i64.wrap (x900.many - 1)⟩ : TGroup))) (x:=(⟨x900.hops,x900.text,IntKind.i64.wrap (x900.many - 1)⟩ : TGroup)) rfl (set_at hx900) rfl) rfl (GX.q (.bool (decide ((⟨x900.hops,x900.text,IntKind.i64.wrap (x900.many - 1)⟩ : TGroup).many = 0))) (GX.done ?_)))))
 rcases qq (decide ((⟨x900.hops,x900.text,IntKind.i64.wrap (x900.many - 1)⟩ : TGroup).many = 0)) with hb2 | hb2
 ·rw [hb2]; first | replace hR:=wz hb2 hR | (try simp only [hb2,bb] at hR)
  refine WK.condF rfl (WK.skip (WK.nil ?_))
  obtain rfl:=Option.some.inj hR
  exact RetQ.ret [0,1,2,3,4,5,6,7,8] [] (.inl rfl) rfl rfl rfl (subR_cons rfl (viewO_box (qz rfl (qz (viewP_own_len rfl (by simp)) (qz rfl qw)))) (subR_cons rfl rfl (subR_skip rfl (subR_skip rfl (subR_skip rfl (subR_cons rfl rfl (subR_cons rfl rfl (subR_cons rfl rfl (subR_cons rfl rfl subR_nil))))))))) rfl .refl rfl
 ·rw [hb2]; first | replace hR:=wy hb2 hR | (try simp only [hb2,bb] at hR)
  refine WK.condT rfl (WK.seq (WK.drawn mixed (RD.m rfl (RD.q (.ptr 0 0) (RD.q (.ptr 0 2) (RD.q (.mapr 5) (RD.m rfl (RD.pure (v':=.eptr 8 3 n1.toNat 0) rfl rfl rfl (core_nilT (c:=TGroup.c) (L:=(f0.sets.set n1.toNat (⟨x900.hops,x900.text,IntKind.i64.wrap (x900.many - 1)⟩ : TGroup))) rfl (by (simp only [List.length_set]; omega))) rfl (RD.pure (v':=.eptr 8 3 n1.toNat 1) rfl rfl rfl (core_fldT (c:=TGroup.c) (L:=(f0.sets.set n1.toNat (⟨x900.hops,x900.text,IntKind.i64.wrap (x900.many - 1)⟩ : TGroup))) rfl (by (simp only [List.length_set]; omega)) rfl) rfl (RD.pure (v':=.str ((⟨x900.hops,x900.text,IntKind.i64.wrap (x900.many - 1)⟩ : TGroup).text)) rfl rfl rfl (core_loaT (c:=TGroup.c) (L:=(f0.sets.set n1.toNat (⟨x900.hops,x900.text,IntKind.i64.wrap (x900.many - 1)⟩ : TGroup))) (x:=(⟨x900.hops,x900.text,IntKind.i64.wrap (x900.many - 1)⟩ : TGroup)) rfl (set_at hx900) rfl) rfl (RD.step0 (zx:=[(0,.box [.ptr 1 0,.own 8 3 0 f0.sets.length,.mapr 5]),(1,.box [.own 6 6 0 f0.t.l.length,.own 7 1 0 f0.t.free.length,.int .i64 f0.t.root,.int .i64 f0.t.n]),(5,.mq (qdel f0.atf ((⟨x900.hops,x900.text,IntKind.i64.wrap (x900.many - 1)⟩ : TGroup).text)).1 ((qdel f0.atf ((⟨x900.hops,x900.text,IntKind.i64.wrap (x900.many - 1)⟩ : TGroup).text)).2.map (encE (fun y=>.int .i64 y)))),(6,.row 6 101 (f0.t.l.map TNode.c)),(7,.row 1 3 (f0.t.free.map c_i64)),(8,.row 3 71 ((f0.sets.set n1.toNat (⟨x900.hops,x900.text,IntKind.i64.wrap (x900.many - 1)⟩ : TGroup)).map TGroup.c))]) (zy:=9) rfl rfl (core_delQ (e:=(fun y=>.int .i64 y)) rfl) rfl rfl (RD.done rfl (WK.drawn mixed ?_)))))))))))))
  refine RD.pure (v':=.eptr 8 3 n1.toNat 0) rfl rfl rfl rfl rfl (RD.pureW (v':=.agg [.ro 2 (([]:List THop).map THop.c),.str (bstr []),.int .i64 0]) rfl rfl rfl rfl (.agg (.cons .nil .refl)) (RD.pure (v':=.eptr 8 3 n1.toNat 0) rfl rfl rfl (core_nilT (c:=TGroup.c) (L:=(f0.sets.set n1.toNat (⟨x900.hops,x900.text,IntKind.i64.wrap (x900.many - 1)⟩ : TGroup))) rfl (by (simp only [List.length_set]; omega))) rfl (RD.step0 (zx:=[(0,.box [.ptr 1 0,.own 8 3 0 f0.sets.length,.mapr 5]),(1,.box [.own 6 6 0 f0.t.l.length,.own 7 1 0 f0.t.free.length,.int .i64 f0.t.root,.int .i64 f0.t.n]),(5,.mq (qdel f0.atf ((⟨x900.hops,x900.text,IntKind.i64.wrap (x900.many - 1)⟩ : TGroup).text)).1 ((qdel f0.atf ((⟨x900.hops,x900.text,IntKind.i64.wrap (x900.many - 1)⟩ : TGroup).text)).2.map (encE (fun y=>.int .i64 y)))),(6,.row 6 101 (f0.t.l.map TNode.c)),(7,.row 1 3 (f0.t.free.map c_i64)),(8,.row 3 71 (((f0.sets.set n1.toNat (⟨x900.hops,x900.text,IntKind.i64.wrap (x900.many - 1)⟩ : TGroup)).set n1.toNat (⟨([]:List THop),(bstr []),0⟩ : TGroup)).map TGroup.c))]) (zy:=9) rfl rfl (core_stoT (c:=TGroup.c) (L:=(f0.sets.set n1.toNat (⟨x900.hops,x900.text,IntKind.i64.wrap (x900.many - 1)⟩ : TGroup))) (x:=(⟨x900.hops,x900.text,IntKind.i64.wrap (x900.many - 1)⟩ : TGroup)) (x':=(⟨([]:List THop),(bstr []),0⟩ : TGroup)) rfl (set_at hx900) rfl rfl rfl rfl rfl) rfl rfl (RD.done0 (WK.nil ?_)))))
  obtain rfl:=Option.some.inj hR
  exact RetQ.ret [0,1,2,3,4,5,6,7,8] [] (.inl rfl) rfl rfl rfl (subR_cons rfl (viewO_box (qz rfl (qz (viewP_own_len rfl (by simp)) (qz rfl qw)))) (subR_cons rfl rfl (subR_skip rfl (subR_skip rfl (subR_skip rfl (subR_cons rfl rfl (subR_cons rfl rfl (subR_cons rfl rfl (subR_cons rfl rfl subR_nil))))))))) rfl .refl rfl
theorem f19_ok (f0:TFib) (p1:qk) (R:Bool × TFib) (hR:F19 f0 p1 = some R):FnOk Tryz.prog 19 [.ptr 0 0,.agg (qk.c p1)] [(0,.box [.ptr 1 0,.own 4 3 0 f0.sets.length,.mapr 5]),(1,.box [.own 2 6 0 f0.t.l.length,.own 3 1 0 f0.t.free.length,.int .i64 f0.t.root,.int .i64 f0.t.n]),(2,.row 6 101 (f0.t.l.map TNode.c)),(3,.row 1 3 (f0.t.free.map c_i64)),(4,.row 3 71 (f0.sets.map TGroup.c)),(5,.mq f0.atf.1 (f0.atf.2.map (encE (fun y=>.int .i64 y))))] 6 (.bool R.1) [(0,.box [.ptr 1 0,.own 8 3 0 R.2.sets.length,.mapr 5]),(1,.box [.own 6 6 0 R.2.t.l.length,.own 7 1 0 R.2.t.free.length,.int .i64 R.2.t.root,.int .i64 R.2.t.n]),(5,.mq R.2.atf.1 (R.2.atf.2.map (encE (fun y=>.int .i64 y)))),(6,.row 6 101 (R.2.t.l.map TNode.c)),(7,.row 1 3 (R.2.t.free.map c_i64)),(8,.row 3 71 (R.2.sets.map TGroup.c))] 9:=by
 refine FnOk.wk i19 rfl rfl ?_
 unfold F19 at hR
 try dsimp only at hR
 change WK _ _ _ [ac19] _ ⟨[(0,.ptr 0 0),(1,.agg (qk.c p1))],[(0,.box [.ptr 1 0,.own 4 3 0 f0.sets.length,.mapr 5]),(1,.box [.own 2 6 0 f0.t.l.length,.own 3 1 0 f0.t.free.length,.int .i64 f0.t.root,.int .i64 f0.t.n]),(2,.row 6 101 (f0.t.l.map TNode.c)),(3,.row 1 3 (f0.t.free.map c_i64)),(4,.row 3 71 (f0.sets.map TGroup.c)),(5,.mq f0.atf.1 (f0.atf.2.map (encE (fun y=>.int .i64 y))))],6⟩
 unfold ac19
 refine WK.mvB (id:=1) (j:=0) (zx:=[(0,.box [.ptr 1 0,.own 4 3 0 f0.sets.length,.mapr 5]),(1,.box [.own 6 6 0 f0.t.l.length,.own 3 1 0 f0.t.free.length,.int .i64 f0.t.root,.int .i64 f0.t.n]),(3,.row 1 3 (f0.t.free.map c_i64)),(4,.row 3 71 (f0.sets.map TGroup.c)),(5,.mq f0.atf.1 (f0.atf.2.map (encE (fun y=>.int .i64 y)))),(6,.row 6 101 (f0.t.l.map TNode.c))]) rfl rfl rfl (by simp) rfl (WK.mvB (id:=1) (j:=1) (zx:=[(0,.box [.ptr 1 0,.own 4 3 0 f0.sets.length,.mapr 5]),(1,.box [.own 6 6 0 f0.t.l.length,.own 7 1 0 f0.t.free.length,.int .i64 f0.t.root,.int .i64 f0.t.n]),(4,.row 3 71 (f0.sets.map TGroup.c)),(5,.mq f0.atf.1 (f0.atf.2.map (encE (fun y=>.int .i64 y)))),(6,.row 6 101 (f0.t.l.map TNode.c)),(7,.row 1 3 (f0.t.free.map c_i64))]) rfl rfl rfl (by simp) rfl (WK.mvB (id:=0) (j:=1) (zx:=[(0,.box [.ptr 1 0,.own 8 3 0 f0.sets.length,.mapr 5]),(1,.box [.own 6 6 0 f0.t.l.length,.own 7 1 0 f0.t.free.length,.int .i64 f0.t.root,.int .i64 f0.t.n]),(5,.mq f0.atf.1 (f0.atf.2.map (encE (fun y=>.int .i64 y)))),(6,.row 6 101 (f0.t.l.map TNode.c)),(7,.row 1 3 (f0.t.free.map c_i64)),(8,.row 3 71 (f0.sets.map TGroup.c))]) rfl rfl rfl (by simp) rfl (WK.sr mixed (GX.step (v':=.ptr 9 0) (zx:=[(0,.box [.ptr 1 0,.own 8 3 0 f0.sets.length,.mapr 5]),(1,.box [.own 6 6 0 f0.t.l.length,.own 7 1 0 f0.t.free.length,.int .i64 f0.t.root,.int .i64 f0.t.n]),(5,.mq f0.atf.1 (f0.atf.2.map (encE (fun y=>.int .i64 y)))),(6,.row 6 101 (f0.t.l.map TNode.c)),(7,.row 1 3 (f0.t.free.map c_i64)),(8,.row 3 71 (f0.sets.map TGroup.c)),(9,.box (qk.c p1))]) (zy:=10) rfl rfl rfl rfl rfl rfl rfl (GX.m rfl (GX.done (WK.seq (WK.sr mixed (GX.m rfl (GX.q (.bool false) (GX.done (WK.condF rfl (WK.skip ?_)))))))))))))
 refine WK.seq (WK.drawn mixed (RD.m rfl (RD.q (.ptr 0 0) (RD.q (.ptr 0 0) (RD.q (.ptr 1 0) (RD.q (.agg (qk.c p1)) ?_))))))
 obtain ⟨c15,hc15,hR⟩:=zz hR; try dsimp only at hR
 refine RD.callx (r':=.tup [.int .i64 c15.1,.bool c15.2]) (zx:=[(0,.box [.ptr 1 0,.own 8 3 0 f0.sets.length,.mapr 5]),(1,.box [.own 6 6 0 f0.t.l.length,.own 7 1 0 f0.t.free.length,.int .i64 f0.t.root,.int .i64 f0.t.n]),(5,.mq f0.atf.1 (f0.atf.2.map (encE (fun y=>.int .i64 y)))),(6,.row 6 101 (f0.t.l.map TNode.c)),(7,.row 1 3 (f0.t.free.map c_i64)),(8,.row 3 71 (f0.sets.map TGroup.c)),(9,.box (qk.c p1))]) (zy:=10) [1,6,7] [] rfl rfl rfl rfl rfl rfl (f31_ok f0.t p1 _ hc15) (.inl rfl) rfl rfl rfl (RD.m rfl (RD.q (.int .i64 c15.1) (RD.q (.bool c15.2) (RD.m rfl (RD.m rfl (RD.done rfl (WK.seq (WK.sr mixed (GX.m rfl (GX.done ?_))))))))))
 rcases qq (c15.2) with hb2 | hb2
 ·rw [hb2]; first | replace hR:=wz hb2 hR | (try simp only [hb2,bb] at hR)
  refine WK.condF rfl (WK.skip (WK.sr mixed (GX.m rfl (GX.m rfl (GX.done (WK.ret ?_))))))
  obtain rfl:=Option.some.inj hR
  exact RetQ.ret [0,1,2,3,4,5,6,7,8] [] (.inr rfl) rfl rfl rfl rfl rfl .refl rfl
 ·rw [hb2]; first | replace hR:=wy hb2 hR | (try simp only [hb2,bb] at hR)
  refine WK.condT rfl (WK.seq (WK.drawn mixed (RD.m rfl (RD.q (.ptr 0 0) (RD.q (.ptr 0 0) (RD.q (.ptr 1 0) (RD.q (.agg (qk.c p1)) ?_)))))))
  obtain ⟨c24,hc24,hR⟩:=zz hR; try dsimp only at hR
  refine RD.callx (r':=.bool c24.1) (zx:=[(0,.box [.ptr 1 0,.own 8 3 0 f0.sets.length,.mapr 5]),(1,.box [.own 10 6 0 c24.2.l.length,.own 11 1 0 c24.2.free.length,.int .i64 c24.2.root,.int .i64 c24.2.n]),(5,.mq f0.atf.1 (f0.atf.2.map (encE (fun y=>.int .i64 y)))),(8,.row 3 71 (f0.sets.map TGroup.c)),(9,.box (qk.c p1)),(11,.row 1 3 (c24.2.free.map c_i64)),(10,.row 6 101 (c24.2.l.map TNode.c))]) (zy:=12) [1,6,7] [] rfl rfl rfl rfl rfl rfl (f32_ok f0.t p1 _ hc24) (.inl rfl) rfl rfl rfl (RD.done rfl (WK.regx mixed (GX.m rfl (GX.m rfl ?_))))
  obtain ⟨c27,hc27,hR⟩:=zz hR; try dsimp only at hR
  try dsimp only at hR
  refine GX.callx (r':=.tup []) (zx:=[(0,.box [.ptr 1 0,.own 14 3 0 c27.sets.length,.mapr 5]),(1,.box [.own 12 6 0 c27.t.l.length,.own 13 1 0 c27.t.free.length,.int .i64 c27.t.root,.int .i64 c27.t.n]),(5,.mq c27.atf.1 (c27.atf.2.map (encE (fun y=>.int .i64 y)))),(9,.box (qk.c p1)),(14,.row 3 71 (c27.sets.map TGroup.c)),(13,.row 1 3 (c27.t.free.map c_i64)),(12,.row 6 101 (c27.t.l.map TNode.c))]) (zy:=15) [0,1,10,11,8,5] [] rfl rfl rfl rfl rfl rfl (f33_ok (⟨c24.2,f0.sets,f0.atf⟩ : TFib) c15.1 _ hc27) (.inl rfl) rfl rfl rfl (GX.done (WK.sr mixed (GX.m rfl (GX.m rfl (GX.done (WK.ret ?_))))))
  obtain rfl:=Option.some.inj hR
  exact RetQ.ret [0,1,2,3,4,5,12,13,14] [] (.inr rfl) rfl rfl rfl rfl rfl .refl rfl
theorem f35_ok (s10:List THop) (s21:List THop) (R:Bool) (hR:F35 s10 s21 = some R):FnOk Tryz.prog 35 [.ro 2 (s10.map THop.c),.ro 2 (s21.map THop.c)] [] 0 (.bool R) [] 0:=by
 refine FnOk.wk i35 rfl rfl ?_
 unfold F35 at hR
 try dsimp only at hR
 change WK _ _ _ [ac35] _ ⟨[(0,.ro 2 (s10.map THop.c)),(1,.ro 2 (s21.map THop.c))],[],0⟩
 unfold ac35
 refine WK.sr mixed (GX.m rfl (GX.done (WK.seq (WK.sr mixed (GX.m rfl (GX.pure (v':=.int .i64 (s10.length:Int)) rfl rfl rfl rfl (zj _ _) (GX.m rfl (GX.pure (v':=.int .i64 (s21.length:Int)) rfl rfl rfl rfl (zj _ _) (GX.q (.bool (!decide ((s10.length:Int) = (s21.length:Int)))) (GX.done ?_))))))))))
 rcases qq (decide ((s10.length:Int) = (s21.length:Int))) with hb1 | hb1
 ·rw [hb1]; first | replace hR:=wz hb1 hR | (try simp only [hb1,bb] at hR)
  refine WK.condT rfl (WK.sr mixed (GX.m rfl (GX.done (WK.ret ?_))))
  obtain rfl:=Option.some.inj hR
  exact RetQ.fr [] (.inr rfl) rfl rfl rfl rfl
 ·rw [hb1]; first | replace hR:=wy hb1 hR | (try simp only [hb1,bb] at hR)
  refine WK.condF rfl (WK.skip (WK.seq (WK.sr mixed (GX.m rfl (GX.pure (v':=.int .i64 (s10.length:Int)) rfl rfl rfl rfl (zj _ _) (GX.m rfl (GX.done ?_)))))))
  refine WK.len (t:=0) rfl (by simp) (fun ge2=>?_)
  rw [List.length_map] at ge2
  generalize gi2:F35l1 s21 0 s10 = gh2 at hR
  refine WK.forK (fun k s=>∃ (i13:Nat),i13 ≤ s10.length ∧ k = s10.length - i13 ∧ F35l1 s21 i13 (s10.drop i13) = gh2 ∧ s = ⟨[(0,.ro 2 (s10.map THop.c)),(1,.ro 2 (s21.map THop.c)),(12,.int .i64 (s10.length:Int)),(13,.int .i64 (i13:Int))],[],0⟩) s10.length (by refine ⟨_,?_,0,(by omega),rfl,gi2,rfl⟩; exact Conv.keep [] [] [0,1,12,13] rfl rfl (qx rfl rfl (qx rfl rfl (qx rfl rfl (qx rfl rfl qy)))) rfl rfl) ?_
  rintro _ _ ⟨i13,gj2,rfl,gg2,rfl⟩ gb2 gd2 gk2 ga2 gc2 gf2
  refine WK.sr mixed (GX.q (.bool (decide ((i13:Int) < (s10.length:Int)))) (GX.done (WK.seq ?_)))
  rcases qq (decide ((i13:Int) < (s10.length:Int))) with hb3 | hb3
  ·rw [hb3]
   rw [drop_end hb3,F35l1] at gg2
   refine WK.condF rfl (WK.exit ?_)
   refine QF.exit (gc2 _ ?_)
   subst gg2
   replace hR:=oexc_k hR; try dsimp only at hR
   refine WK.sr mixed (GX.m rfl (GX.done (WK.ret ?_)))
   obtain rfl:=Option.some.inj hR
   exact RetQ.fr [] (.inr rfl) rfl rfl rfl rfl
  ·rw [hb3]
   obtain ⟨x13,hx2,hd2,hlt2⟩:=drop_more hb3
   rw [hd2,F35l1] at gg2
   refine WK.condT rfl (WK.skip (WK.seq ?_))
   refine WK.blockK (fun _ hK4=>?_)
   refine WK.sr mixed (GX.m rfl (GX.m rfl (GX.done (WK.seq (WK.drawn mixed (RD.m rfl (RD.m rfl (RD.idxT (c:=THop.c) (x:=x13) rfl rfl rfl (Int.natCast_nonneg _) hx2 (RD.q (.agg (THop.c x13)) (RD.m rfl (RD.m rfl ?_)))))))))))
   rcases zw gg2 with ⟨_,gg2⟩ | ⟨x904,hx904,gg2⟩
   ·subst gg2
    first | replace hR:=zq hR | replace hR:=oexc_n hR
    cases hR
   try dsimp only at gg2
   obtain ⟨hx9040,hx904j,hx904l,hx904⟩:=zk hx904
   refine RD.idxT (c:=THop.c) (x:=x904) rfl rfl rfl hx9040 hx904 (RD.q (.agg (THop.c x904)) (RD.q (.bool (!(decide (x13.Iface = x904.Iface) && (decide (x13.Gate = x904.Gate) && true)))) (RD.done rfl ?_)))
   rcases qq (decide (x13.Iface = x904.Iface) && (decide (x13.Gate = x904.Gate) && true)) with hb6 | hb6
   ·rw [hb6]; try simp only [hb6,bb] at gg2
    refine WK.condT rfl (WK.sr mixed (GX.m rfl (GX.done (WK.ret (QF.ret ?_)))))
    refine QF.ret (gf2 _ _ ?_)
    subst gg2
    first | replace hR:=oexc_e hR | replace hR:=oexc_k hR | replace hR:=obind_s hR
    try dsimp only at hR
    obtain rfl:=Option.some.inj hR
    exact RetQ.fr [] (.inr rfl) rfl rfl rfl rfl
   ·rw [hb6]; try simp only [hb6,bb] at gg2
    refine WK.condF rfl (WK.skip ?_)
    refine WK.nil (QF.normal (hK4 _ ?_))
    refine WK.regx mixed (GX.pure (v':=.int .i64 ((i13 + 1:Nat):Int)) rfl rfl rfl rfl (congrArg (PVal.int .i64) (wrap_up hlt2 ge2)) (GX.m rfl (GX.done ?_)))
    refine WK.nil (QF.normal ?_)
    refine ga2 _ (s10.length - (i13 + 1)) _ (by omega) ?_ ⟨i13 + 1,(by omega),rfl,gg2,rfl⟩
    exact Conv.keep [] [] [0,1,12,13] rfl rfl (qx rfl rfl (qx rfl rfl (qx rfl rfl (qx rfl rfl qy)))) rfl rfl
theorem f23_ok (f0:TFib) (p1:qk) (l2:List THop) (R:Bool) (hR:F23 f0 p1 l2 = some R):FnOk Tryz.prog 23 [.ptr 0 0,.agg (qk.c p1),.ro 2 (l2.map THop.c)] [(0,.box [.ptr 1 0,.own 4 3 0 f0.sets.length,.mapr 5]),(1,.box [.own 2 6 0 f0.t.l.length,.own 3 1 0 f0.t.free.length,.int .i64 f0.t.root,.int .i64 f0.t.n]),(2,.row 6 101 (f0.t.l.map TNode.c)),(3,.row 1 3 (f0.t.free.map c_i64)),(4,.row 3 71 (f0.sets.map TGroup.c)),(5,.mq f0.atf.1 (f0.atf.2.map (encE (fun y=>.int .i64 y))))] 6 (.bool R) [(0,.box [.ptr 1 0,.own 4 3 0 f0.sets.length,.mapr 5]),(1,.box [.own 2 6 0 f0.t.l.length,.own 3 1 0 f0.t.free.length,.int .i64 f0.t.root,.int .i64 f0.t.n]),(2,.row 6 101 (f0.t.l.map TNode.c)),(3,.row 1 3 (f0.t.free.map c_i64)),(4,.row 3 71 (f0.sets.map TGroup.c)),(5,.mq f0.atf.1 (f0.atf.2.map (encE (fun y=>.int .i64 y))))] 6:=by
 refine FnOk.wk i23 rfl rfl ?_
 unfold F23 at hR
 try dsimp only at hR
 change WK _ _ _ [ac23] _ ⟨[(0,.ptr 0 0),(1,.agg (qk.c p1)),(2,.ro 2 (l2.map THop.c))],[(0,.box [.ptr 1 0,.own 4 3 0 f0.sets.length,.mapr 5]),(1,.box [.own 2 6 0 f0.t.l.length,.own 3 1 0 f0.t.free.length,.int .i64 f0.t.root,.int .i64 f0.t.n]),(2,.row 6 101 (f0.t.l.map TNode.c)),(3,.row 1 3 (f0.t.free.map c_i64)),(4,.row 3 71 (f0.sets.map TGroup.c)),(5,.mq f0.atf.1 (f0.atf.2.map (encE (fun y=>.int .i64 y))))],6⟩
 unfold ac23
 refine WK.sr mixed (GX.step (v':=.ptr 6 0) (zx:=[(0,.box [.ptr 1 0,.own 4 3 0 f0.sets.length,.mapr 5]),(1,.box [.own 2 6 0 f0.t.l.length,.own 3 1 0 f0.t.free.length,.int .i64 f0.t.root,.int .i64 f0.t.n]),(2,.row 6 101 (f0.t.l.map TNode.c)),(3,.row 1 3 (f0.t.free.map c_i64)),(4,.row 3 71 (f0.sets.map TGroup.c)),(5,.mq f0.atf.1 (f0.atf.2.map (encE (fun y=>.int .i64 y)))),(6,.box (qk.c p1))]) (zy:=7) rfl rfl rfl rfl rfl rfl rfl (GX.m rfl (GX.done (WK.seq (WK.drawn mixed (RD.m rfl (RD.q (.ptr 0 0) (RD.q (.ptr 0 0) (RD.q (.ptr 1 0) (RD.q (.agg (qk.c p1)) ?_))))))))))
 obtain ⟨c15,hc15,hR⟩:=zz hR; try dsimp only at hR
 refine RD.callx (r':=.tup [.int .i64 c15.1,.bool c15.2]) (zx:=[(0,.box [.ptr 1 0,.own 4 3 0 f0.sets.length,.mapr 5]),(1,.box [.own 2 6 0 f0.t.l.length,.own 3 1 0 f0.t.free.length,.int .i64 f0.t.root,.int .i64 f0.t.n]),(2,.row 6 101 (f0.t.l.map TNode.c)),(3,.row 1 3 (f0.t.free.map c_i64)),(4,.row 3 71 (f0.sets.map TGroup.c)),(5,.mq f0.atf.1 (f0.atf.2.map (encE (fun y=>.int .i64 y)))),(6,.box (qk.c p1))]) (zy:=7) [1,2,3] [] rfl rfl rfl rfl rfl rfl (f31_ok f0.t p1 _ hc15) (.inl rfl) rfl rfl rfl (RD.m rfl (RD.q (.int .i64 c15.1) (RD.q (.bool c15.2) (RD.m rfl (RD.m rfl (RD.done rfl (WK.sr mixed (GX.m rfl (GX.m rfl ?_)))))))))
 rcases qq (c15.2) with hb2 | hb2
 ·rw [hb2]; first | replace hR:=wz hb2 hR | (try simp only [hb2,bb] at hR)
  iterate 10 refine GX.skip rfl rfl ?_
  refine GX.q (.bool false) (GX.m rfl (GX.done (WK.ret ?_)))
  obtain rfl:=Option.some.inj hR
  exact RetQ.ret [0,1,2,3,4,5] [] (.inr rfl) rfl rfl rfl rfl rfl .refl rfl
 ·rw [hb2]; first | replace hR:=wy hb2 hR | (try simp only [hb2,bb] at hR)
  refine GX.m rfl (GX.q (.ptr 0 0) (GX.q (.ptr 0 1) (GX.q (.own 4 3 0 f0.sets.length) (GX.m rfl ?_))))
  obtain ⟨x902,hx902,hR⟩:=zz hR; try dsimp only at hR
  obtain ⟨hx9020,hx902j,hx902l,hx902⟩:=zk hx902
  refine GX.pure (v':=.eptr 4 3 c15.1.toNat 0) rfl rfl rfl (core_idxoT (c:=TGroup.c) (L:=f0.sets) (j:=c15.1.toNat) rfl hx902j hx902l (by exact Nat.le_refl _)) rfl (GX.pure (v':=.eptr 4 3 c15.1.toNat 0) rfl rfl rfl (core_fldT (c:=TGroup.c) (L:=f0.sets) rfl (by omega) rfl) rfl (GX.pure (v':=.ro 2 (x902.hops.map THop.c)) rfl rfl rfl (core_loaT (c:=TGroup.c) (L:=f0.sets) (x:=x902) rfl hx902 rfl) rfl (GX.m rfl ?_)))
  obtain ⟨c29,hc29,hR⟩:=zz hR; try dsimp only at hR
  try dsimp only at hR
  refine GX.callp (r:=.bool c29) rfl rfl rfl (f35_ok x902.hops l2 _ hc29) rfl rfl (GX.q (.bool c29) (GX.m rfl (GX.done (WK.ret ?_))))
  obtain rfl:=Option.some.inj hR
  exact RetQ.ret [0,1,2,3,4,5] [] (.inr rfl) rfl rfl rfl rfl rfl .refl rfl
theorem f24_ok (l0:List THop) (R:(List THop)) (hR:F24 l0 = some R):FnOk Tryz.prog 24 [.ro 2 (l0.map THop.c)] [] 0 (.ro 2 (R.map THop.c)) [] 0:=by
 refine FnOk.wk i24 rfl rfl ?_
 unfold F24 at hR
 try dsimp only at hR
 change WK _ _ _ [ac24] _ ⟨[(0,.ro 2 (l0.map THop.c))],[],0⟩
 unfold ac24
 refine WK.sr mixed (GX.m rfl (GX.done (WK.sr mixed (GX.m rfl ?_))))
 rcases qq (decide (l0.length < 1099511627776)) with hg1 | hg1
 ·replace hR:=wz hg1 hR
  cases hR
 replace hR:=wy hg1 hR; try dsimp only at hR
 have hg1_:=of_decide_eq_true hg1
 refine GX.callx (r':=.own 0 2 0 l0.length) (zx:=[(0,.row 2 63 (l0.map THop.c))]) (zy:=1) [] [] rfl rfl rfl rfl rfl rfl (clone_okT (c:=THop.c) mixed i26 l0 (by decide) (by omega) (by omega)) (.inl rfl) rfl rfl rfl (GX.m rfl (GX.done (WK.sr mixed (GX.m rfl (GX.callx (r':=.tup []) (zx:=[(0,.row 2 63 ((sortQ F37 l0).map THop.c))]) (zy:=1) [0] [] rfl rfl rfl rfl rfl rfl (f36_ok 63 l0 (by omega)) (.inl rfl) rfl rfl rfl (GX.done (WK.sr mixed (GX.m rfl ?_))))))))
 rcases qq (decide ((sortQ F37 l0).length < 1099511627776)) with hg2 | hg2
 ·replace hR:=wz hg2 hR
  cases hR
 replace hR:=wy hg2 hR; try dsimp only at hR
 have hg2_:=of_decide_eq_true hg2
 refine GX.callx (r':=.own 1 2 0 (compactQ (fun (a b:THop)=>(decide (a.Iface = b.Iface) && (decide (a.Gate = b.Gate) && true))) (sortQ F37 l0)).length) (zx:=[(1,.row 2 63 ((compactQ (fun (a b:THop)=>(decide (a.Iface = b.Iface) && (decide (a.Gate = b.Gate) && true))) (sortQ F37 l0)).map THop.c))]) (zy:=2) [0] [] rfl rfl rfl rfl rfl rfl (f41_okN 63 (sortQ F37 l0) _ (by first | rfl | (unfold sortQ; simp only [List.length_mergeSort])) (by omega)) (.inl rfl) rfl rfl rfl (GX.m rfl (GX.done (WK.ret ?_)))
 obtain rfl:=Option.some.inj hR
 exact RetQ.fr [1] (.inr rfl) rfl rfl (qz (view_rowT rfl rfl) qw) rfl
theorem f58_ok (t0:TTrie) (x1:TNode) (R:Int × TTrie) (hR:F58 t0 x1 = some R):FnOk Tryz.prog 58 [.ptr 0 0,.agg (TNode.c x1)] [(0,.box [.own 1 6 0 t0.l.length,.own 2 1 0 t0.free.length,.int .i64 t0.root,.int .i64 t0.n]),(1,.row 6 101 (t0.l.map TNode.c)),(2,.row 1 3 (t0.free.map c_i64))] 3 (.int .i64 R.1) [(0,.box [.own 3 6 0 R.2.l.length,.own 4 1 0 R.2.free.length,.int .i64 R.2.root,.int .i64 R.2.n]),(3,.row 6 101 (R.2.l.map TNode.c)),(4,.row 1 3 (R.2.free.map c_i64))] 5:=by
 refine FnOk.wk i58 rfl rfl ?_
 unfold F58 at hR
 try dsimp only at hR
 change WK _ _ _ [ac58] _ ⟨[(0,.ptr 0 0),(1,.agg (TNode.c x1))],[(0,.box [.own 1 6 0 t0.l.length,.own 2 1 0 t0.free.length,.int .i64 t0.root,.int .i64 t0.n]),(1,.row 6 101 (t0.l.map TNode.c)),(2,.row 1 3 (t0.free.map c_i64))],3⟩
 unfold ac58
 refine WK.mvB (id:=0) (j:=0) (zx:=[(0,.box [.own 3 6 0 t0.l.length,.own 2 1 0 t0.free.length,.int .i64 t0.root,.int .i64 t0.n]),(2,.row 1 3 (t0.free.map c_i64)),(3,.row 6 101 (t0.l.map TNode.c))]) rfl rfl rfl (by simp) rfl (WK.mvB (id:=0) (j:=1) (zx:=[(0,.box [.own 3 6 0 t0.l.length,.own 4 1 0 t0.free.length,.int .i64 t0.root,.int .i64 t0.n]),(3,.row 6 101 (t0.l.map TNode.c)),(4,.row 1 3 (t0.free.map c_i64))]) rfl rfl rfl (by simp) rfl (WK.sr mixed (GX.step (v':=.ptr 5 0) (zx:=[(0,.box [.own 3 6 0 t0.l.length,.own 4 1 0 t0.free.length,.int .i64 t0.root,.int .i64 t0.n]),(3,.row 6 101 (t0.l.map TNode.c)),(4,.row 1 3 (t0.free.map c_i64)),(5,.box (TNode.c x1))]) (zy:=6) rfl rfl rfl rfl rfl rfl rfl (GX.m rfl (GX.done (WK.seq (WK.sr mixed (GX.m rfl (GX.q (.ptr 0 0) (GX.q (.ptr 0 1) (GX.q (.own 4 1 0 t0.free.length) (GX.q (.int .i64 (t0.free.length:Int)) (GX.m rfl ?_)))))))))))))
 refine GX.done (WK.sr mixed (GX.m rfl (GX.q (.bool (decide (0 < (t0.free.length:Int)))) (GX.done ?_))))
 rcases qq (decide (0 < (t0.free.length:Int))) with hb1 | hb1
 ·rw [hb1]; first | replace hR:=wz hb1 hR | (try simp only [hb1,bb] at hR)
  refine WK.condF rfl (WK.skip (WK.seq (WK.drawn mixed (RD.m rfl (RD.m rfl (RD.q (.ptr 0 0) (RD.q (.ptr 0 0) (RD.q (.own 3 6 0 t0.l.length) (RD.q (.agg (TNode.c x1)) (RD.step (v':=.own 6 6 0 (([x1]:List TNode)).length) (zx:=[(0,.box [.own 3 6 0 t0.l.length,.own 4 1 0 t0.free.length,.int .i64 t0.root,.int .i64 t0.n]),(3,.row 6 101 (t0.l.map TNode.c)),(4,.row 1 3 (t0.free.map c_i64)),(5,.box (TNode.c x1)),(6,.row 6 101 (([x1]:List TNode).map TNode.c))]) (zy:=7) rfl rfl rfl rfl rfl rfl rfl ?_))))))))))
  rcases qq (decide (t0.l.length < 1099511627776)) with hg2 | hg2
  ·replace hR:=wz hg2 hR
   cases hR
  replace hR:=wy hg2 hR; try dsimp only at hR
  have hg2_:=of_decide_eq_true hg2
  refine RD.appT (c:=TNode.c) (L:=t0.l) (X:=([x1]:List TNode)) (zx:=[(0,.box [.own 3 6 0 t0.l.length,.own 4 1 0 t0.free.length,.int .i64 t0.root,.int .i64 t0.n]),(4,.row 1 3 (t0.free.map c_i64)),(5,.box (TNode.c x1)),(6,.row 6 101 (([x1]:List TNode).map TNode.c)),(7,.row 6 101 ((t0.l ++ ([x1]:List TNode)).map TNode.c))]) (zy:=8) rfl rfl rfl rfl (elems_own rfl) (by ((try simp only [List.length_append,List.length_cons,List.length_nil,List.length_map,decide_eq_true_eq,decide_eq_false_iff_not] at *) <;> omega)) (by ((try simp only [List.length_append,List.length_cons,List.length_nil,List.length_map,decide_eq_true_eq,decide_eq_false_iff_not] at *) <;> omega)) rfl rfl rfl rfl (RD.q (.ptr 0 0) (RD.q (.ptr 0 0) (RD.step0 (zx:=[(0,.box [.own 7 6 0 (t0.l ++ ([x1]:List TNode)).length,.own 4 1 0 t0.free.length,.int .i64 t0.root,.int .i64 t0.n]),(4,.row 1 3 (t0.free.map c_i64)),(5,.box (TNode.c x1)),(6,.row 6 101 (([x1]:List TNode).map TNode.c)),(7,.row 6 101 ((t0.l ++ ([x1]:List TNode)).map TNode.c))]) (zy:=8) rfl rfl rfl rfl rfl (RD.done rfl (WK.sr mixed (GX.m rfl (GX.q (.ptr 0 0) (GX.q (.ptr 0 0) (GX.q (.own 7 6 0 (t0.l ++ ([x1]:List TNode)).length) (GX.q (.int .i64 ((t0.l ++ ([x1]:List TNode)).length:Int)) (GX.q (.int .i64 (IntKind.i64.wrap (((t0.l ++ ([x1]:List TNode)).length:Int) - 1))) (GX.m rfl (GX.done ?_)))))))))))))
  refine WK.ret ?_
  obtain rfl:=Option.some.inj hR
  exact RetQ.ret [0,1,2,7,4] [] (.inr rfl) rfl rfl rfl rfl rfl .refl rfl
 ·rw [hb1]; first | replace hR:=wy hb1 hR | (try simp only [hb1,bb] at hR)
  refine WK.condT rfl (WK.sr mixed (GX.m rfl (GX.q (.ptr 0 0) (GX.q (.ptr 0 1) (GX.q (.own 4 1 0 t0.free.length) (GX.m rfl (GX.q (.int .i64 (IntKind.i64.wrap ((t0.free.length:Int) - 1))) ?_)))))))
  obtain ⟨x902,hx902,hR⟩:=zz hR; try dsimp only at hR
  obtain ⟨hx9020,hx902j,hx902l,hx902⟩:=zk hx902
  refine GX.pure (v':=.eptr 4 1 ((IntKind.i64.wrap ((t0.free.length:Int) - 1)).toNat) 0) rfl rfl rfl (core_idxoT (c:=c_i64) (L:=t0.free) (j:=(IntKind.i64.wrap ((t0.free.length:Int) - 1)).toNat) rfl hx902j hx902l (by exact Nat.le_refl _)) rfl (GX.pure (v':=.int .i64 x902) rfl rfl rfl (core_loaT (c:=c_i64) (L:=t0.free) (x:=x902) rfl hx902 rfl) rfl (GX.m rfl (GX.done (WK.seq (WK.drawn mixed (RD.m rfl (RD.m rfl (RD.q (.ptr 0 0) (RD.q (.ptr 0 0) (RD.q (.own 3 6 0 t0.l.length) (RD.m rfl (RD.m rfl (RD.q (.ptr 0 0) ?_)))))))))))))
  refine RD.q (.ptr 0 1) (RD.q (.own 4 1 0 t0.free.length) (RD.m rfl (RD.q (.int .i64 (IntKind.i64.wrap ((t0.free.length:Int) - 1))) ?_)))
  rcases qq (decide ((0:Int) ≤ IntKind.i64.wrap ((t0.free.length:Int) - 1))) with hg4 | hg4
  ·replace hR:=wz hg4 hR
   cases hR
  replace hR:=wy hg4 hR; try dsimp only at hR
  have hg4_:=of_decide_eq_true hg4
  rcases qq (decide (IntKind.i64.wrap ((t0.free.length:Int) - 1) ≤ (t0.free.length:Int))) with hg5 | hg5
  ·replace hR:=wz hg5 hR
   cases hR
  replace hR:=wy hg5 hR; try dsimp only at hR
  have hg5_:=of_decide_eq_true hg5
  refine RD.pure (v':=.own 4 1 0 (t0.free.take (IntKind.i64.wrap ((t0.free.length:Int) - 1)).toNat).length) rfl rfl rfl (core_sliceRhi (c:=c_i64) (L:=t0.free) rfl (by omega) (by omega)) rfl (RD.q (.agg (TNode.c x1)) (RD.q (.ptr 0 0) (RD.q (.ptr 0 1) (RD.step0 (zx:=[(0,.box [.own 3 6 0 t0.l.length,.own 4 1 0 (t0.free.take (IntKind.i64.wrap ((t0.free.length:Int) - 1)).toNat).length,.int .i64 t0.root,.int .i64 t0.n]),(3,.row 6 101 (t0.l.map TNode.c)),(4,.row 1 3 (t0.free.map c_i64)),(5,.box (TNode.c x1))]) (zy:=6) rfl rfl rfl rfl rfl ?_))))
  obtain ⟨x905,hx905,hR⟩:=zz hR; try dsimp only at hR
  obtain ⟨hx9050,hx905j,hx905l,hx905⟩:=zk hx905
  refine RD.pure (v':=.eptr 3 6 x902.toNat 0) rfl rfl rfl (core_idxoT (c:=TNode.c) (L:=t0.l) (j:=x902.toNat) rfl hx905j hx905l (by exact Nat.le_refl _)) rfl (RD.step0 (zx:=[(0,.box [.own 3 6 0 t0.l.length,.own 4 1 0 (t0.free.take (IntKind.i64.wrap ((t0.free.length:Int) - 1)).toNat).length,.int .i64 t0.root,.int .i64 t0.n]),(3,.row 6 101 ((t0.l.set x902.toNat x1).map TNode.c)),(4,.row 1 3 (t0.free.map c_i64)),(5,.box (TNode.c x1))]) (zy:=6) rfl rfl (core_stoT (c:=TNode.c) (L:=t0.l) (x:=x905) (x':=x1) rfl hx905 rfl rfl rfl rfl rfl) rfl rfl (RD.done rfl (WK.sr mixed (GX.m rfl (GX.m rfl (GX.done (WK.truncT (c:=c_i64) (L:=t0.free) (id:=4) (zx:=[(0,.box [.own 3 6 0 t0.l.length,.own 4 1 0 (t0.free.take (IntKind.i64.wrap ((t0.free.length:Int) - 1)).toNat).length,.int .i64 t0.root,.int .i64 t0.n]),(3,.row 6 101 ((t0.l.set x902.toNat x1).map TNode.c)),(4,.row 1 3 ((t0.free.take (IntKind.i64.wrap ((t0.free.length:Int) - 1)).toNat).map c_i64)),(5,.box (TNode.c x1))]) (IntKind.i64.wrap ((t0.free.length:Int) - 1)).toNat rfl (by simp) rfl (WK.ret ?_))))))))
  obtain rfl:=Option.some.inj hR
  exact RetQ.ret [0,1,2,3,4] [] (.inr rfl) rfl rfl rfl (subR_cons rfl (viewO_box (qz (viewP_own_len rfl (by simp)) (qz rfl (qz rfl (qz rfl qw))))) (subR_skip rfl (subR_skip rfl (subR_cons rfl rfl (subR_cons rfl rfl subR_nil))))) rfl .refl rfl
theorem f59_ok (p0:qk) (v1:Int) (R:TNode) (hR:F59 p0 v1 = R):FnOk Tryz.prog 59 [.agg (qk.c p0),.int .i64 v1] [] 0 (.agg (TNode.c R)) [] 0:=by
 refine FnOk.wk i59 rfl rfl ?_
 unfold F59 at hR
 change WK _ _ _ [ac59] _ ⟨[(0,.agg (qk.c p0)),(1,.int .i64 v1)],[],0⟩
 unfold ac59
 refine WK.sr mixed (GX.step (v':=.ptr 0 0) (zx:=[(0,.box (qk.c p0))]) (zy:=1) rfl rfl rfl rfl rfl rfl rfl (GX.step (v':=.ptr 1 0) (zx:=[(0,.box (qk.c p0)),(1,.box [.int .u32 0,.int .i64 0,.int .i64 0,.bool false,.int .i64 0,.int .i64 0])]) (zy:=2) rfl rfl rfl rfl rfl rfl rfl (GX.done (WK.sr mixed (GX.q (.agg (qk.c p0)) (GX.m rfl (GX.q (.agg [.int .i64 (-1),.int .i64 (-1)]) (GX.q (.agg [.int .u32 p0.A,.int .i64 p0.N,.int .i64 v1,.bool true,.int .i64 (-1),.int .i64 (-1)]) (GX.step0 (zx:=[(0,.box (qk.c p0)),(1,.box [.int .u32 p0.A,.int .i64 p0.N,.int .i64 v1,.bool true,.int .i64 (-1),.int .i64 (-1)])]) (zy:=2) rfl rfl rfl rfl rfl (GX.done (WK.ret ?_)))))))))))
 subst hR
 exact RetQ.fr [] (.inr rfl) rfl rfl rfl rfl
theorem f75_ok (x0:Int) (R:Int) (hR:F75 x0 = R):FnOk Tryz.prog 75 [.int .u32 x0] [] 0 (.int .i64 R) [] 0:=by
 refine FnOk.wk i75 rfl rfl ?_
 unfold F75 at hR
 change WK _ _ _ [ac75] _ ⟨[(0,.int .u32 x0)],[],0⟩
 unfold ac75
 refine WK.sr mixed (GX.m rfl (GX.done (WK.seq (WK.sr mixed (GX.m rfl (GX.q (.bool (decide (65536 ≤ x0))) (GX.done ?_)))))))
 rcases qq (decide (65536 ≤ x0)) with hb1 | hb1
 ·rw [hb1]; try simp only [hb1,bb] at hR
  refine WK.condF rfl (WK.skip (WK.seq (WK.sr mixed (GX.m rfl (GX.q (.bool (decide (256 ≤ x0))) (GX.done ?_))))))
  rcases qq (decide (256 ≤ x0)) with hb2 | hb2
  ·rw [hb2]; try simp only [hb2,bb] at hR
   refine WK.condF rfl (WK.skip (WK.sr mixed (GX.m rfl (GX.m rfl (GX.q (.int .u8 (IntKind.u8.wrap x0)) (GX.pure (v':=.int .u8 (strAt (bstr [0,1,2,2,3,3,3,3,4,4,4,4,4,4,4,4,5,5,5,5,5,5,5,5,5,5,5,5,5,5,5,5,6,6,6,6,6,6,6,6,6,6,6,6,6,6,6,6,6,6,6,6,6,6,6,6,6,6,6,6,6,6,6,6,7,7,7,7,7,7,7,7,7,7,7,7,7,7,7,7,7,7,7,7,7,7,7,7,7,7,7,7,7,7,7,7,7,7,7,7,7,7,7,7,7,7,7,7,7,7,7,7,7,7,7,7,7,7,7,7,7,7,7,7,7,7,7,7,8,8,8,8,8,8,8,8,8,8,8,8,8,8,8,8,8,8,8,8,8,8,8,8,8,8,8,8,8,8,8,8,8,8,8,8,8,8,8,8,8,8,8,8,8,8,8,8,8,8,8,8,8,8,8,8,8,8,8,8,8,8,8,8,8,8,8,8,8,8,8,8,8,8,8,8,8,8,8,8,8,8,8,8,8,8,8,8,8,8,8,8,8,8,8,8,8,8,8,8,8,8,8,8,8,8,8,8,8,8,8,8,8,8,8,8,8,8,8,8,8,8,8,8,8,8,8,8]) (IntKind.u8.wrap x0))) rfl rfl rfl (core_idxS256 rfl) rfl (GX.q (.int .i64 (IntKind.i64.wrap (strAt (bstr [0,1,2,2,3,3,3,3,4,4,4,4,4,4,4,4,5,5,5,5,5,5,5,5,5,5,5,5,5,5,5,5,6,6,6,6,6,6,6,6,6,6,6,6,6,6,6,6,6,6,6,6,6,6,6,6,6,6,6,6,6,6,6,6,7,7,7,7,7,7,7,7,7,7,7,7,7,7,7,7,7,7,7,7,7,7,7,7,7,7,7,7,7,7,7,7,7,7,7,7,7,7,7,7,7,7,7,7,7,7,7,7,7,7,7,7,7,7,7,7,7,7,7,7,7,7,7,7,8,8,8,8,8,8,8,8,8,8,8,8,8,8,8,8,8,8,8,8,8,8,8,8,8,8,8,8,8,8,8,8,8,8,8,8,8,8,8,8,8,8,8,8,8,8,8,8,8,8,8,8,8,8,8,8,8,8,8,8,8,8,8,8,8,8,8,8,8,8,8,8,8,8,8,8,8,8,8,8,8,8,8,8,8,8,8,8,8,8,8,8,8,8,8,8,8,8,8,8,8,8,8,8,8,8,8,8,8,8,8,8,8,8,8,8,8,8,8,8,8,8,8,8,8,8,8,8]) (IntKind.u8.wrap x0)))) (GX.q (.int .i64 (IntKind.i64.wrap (0 + (IntKind.i64.wrap (strAt (bstr [0,1,2,2,3,3,3,3,4,4,4,4,4,4,4,4,5,5,5,5,5,5,5,5,5,5,5,5,5,5,5,5,6,6,6,6,6,6,6,6,6,6,6,6,6,6,6,6,6,6,6,6,6,6,6,6,6,6,6,6,6,6,6,6,7,7,7,7,7,7,7,7,7,7,7,7,7,7,7,7,7,7,7,7,7,7,7,7,7,7,7,7,7,7,7,7,7,7,7,7,7,7,7,7,7,7,7,7,7,7,7,7,7,7,7,7,7,7,7,7,7,7,7,7,7,7,7,7,8,8,8,8,8,8,8,8,8,8,8,8,8,8,8,8,8,8,8,8,8,8,8,8,8,8,8,8,8,8,8,8,8,8,8,8,8,8,8,8,8,8,8,8,8,8,8,8,8,8,8,8,8,8,8,8,8,8,8,8,8,8,8,8,8,8,8,8,8,8,8,8,8,8,8,8,8,8,8,8,8,8,8,8,8,8,8,8,8,8,8,8,8,8,8,8,8,8,8,8,8,8,8,8,8,8,8,8,8,8,8,8,8,8,8,8,8,8,8,8,8,8,8,8,8,8,8,8]) (IntKind.u8.wrap x0)))))) (GX.m rfl (GX.done (WK.ret ?_)))))))))))
   subst hR
   exact RetQ.fr [] (.inr rfl) rfl rfl rfl rfl
  ·rw [hb2]; try simp only [hb2,bb] at hR
   refine WK.condT rfl (WK.sr mixed (GX.m rfl (GX.q (.int .u32 (Int.fdiv x0 (2 ^ 8))) (GX.m rfl (GX.done (WK.regx mixed (GX.m rfl (GX.q (.int .i64 8) (GX.m rfl (GX.done (WK.sr mixed (GX.m rfl (GX.m rfl ?_)))))))))))))
   refine GX.q (.int .u8 (IntKind.u8.wrap (Int.fdiv x0 (2 ^ 8)))) (GX.pure (v':=.int .u8 (strAt (bstr [0,1,2,2,3,3,3,3,4,4,4,4,4,4,4,4,5,5,5,5,5,5,5,5,5,5,5,5,5,5,5,5,6,6,6,6,6,6,6,6,6,6,6,6,6,6,6,6,6,6,6,6,6,6,6,6,6,6,6,6,6,6,6,6,7,7,7,7,7,7,7,7,7,7,7,7,7,7,7,7,7,7,7,7,7,7,7,7,7,7,7,7,7,7,7,7,7,7,7,7,7,7,7,7,7,7,7,7,7,7,7,7,7,7,7,7,7,7,7,7,7,7,7,7,7,7,7,7,8,8,8,8,8,8,8,8,8,8,8,8,8,8,8,8,8,8,8,8,8,8,8,8,8,8,8,8,8,8,8,8,8,8,8,8,8,8,8,8,8,8,8,8,8,8,8,8,8,8,8,8,8,8,8,8,8,8,8,8,8,8,8,8,8,8,8,8,8,8,8,8,8,8,8,8,8,8,8,8,8,8,8,8,8,8,8,8,8,8,8,8,8,8,8,8,8,8,8,8,8,8,8,8,8,8,8,8,8,8,8,8,8,8,8,8,8,8,8,8,8,8,8,8,8,8,8,8]) (IntKind.u8.wrap (Int.fdiv x0 (2 ^ 8))))) rfl rfl rfl (core_idxS256 rfl) rfl (GX.q (.int .i64 (IntKind.i64.wrap (strAt (bstr [0,1,2,2,3,3,3,3,4,4,4,4,4,4,4,4,5,5,5,5,5,5,5,5,5,5,5,5,5,5,5,5,6,6,6,6,6,6,6,6,6,6,6,6,6,6,6,6,6,6,6,6,6,6,6,6,6,6,6,6,6,6,6,6,7,7,7,7,7,7,7,7,7,7,7,7,7,7,7,7,7,7,7,7,7,7,7,7,7,7,7,7,7,7,7,7,7,7,7,7,7,7,7,7,7,7,7,7,7,7,7,7,7,7,7,7,7,7,7,7,7,7,7,7,7,7,7,7,8,8,8,8,8,8,8,8,8,8,8,8,8,8,8,8,8,8,8,8,8,8,8,8,8,8,8,8,8,8,8,8,8,8,8,8,8,8,8,8,8,8,8,8,8,8,8,8,8,8,8,8,8,8,8,8,8,8,8,8,8,8,8,8,8,8,8,8,8,8,8,8,8,8,8,8,8,8,8,8,8,8,8,8,8,8,8,8,8,8,8,8,8,8,8,8,8,8,8,8,8,8,8,8,8,8,8,8,8,8,8,8,8,8,8,8,8,8,8,8,8,8,8,8,8,8,8,8]) (IntKind.u8.wrap (Int.fdiv x0 (2 ^ 8)))))) (GX.q (.int .i64 (IntKind.i64.wrap (8 + (IntKind.i64.wrap (strAt (bstr [0,1,2,2,3,3,3,3,4,4,4,4,4,4,4,4,5,5,5,5,5,5,5,5,5,5,5,5,5,5,5,5,6,6,6,6,6,6,6,6,6,6,6,6,6,6,6,6,6,6,6,6,6,6,6,6,6,6,6,6,6,6,6,6,7,7,7,7,7,7,7,7,7,7,7,7,7,7,7,7,7,7,7,7,7,7,7,7,7,7,7,7,7,7,7,7,7,7,7,7,7,7,7,7,7,7,7,7,7,7,7,7,7,7,7,7,7,7,7,7,7,7,7,7,7,7,7,7,8,8,8,8,8,8,8,8,8,8,8,8,8,8,8,8,8,8,8,8,8,8,8,8,8,8,8,8,8,8,8,8,8,8,8,8,8,8,8,8,8,8,8,8,8,8,8,8,8,8,8,8,8,8,8,8,8,8,8,8,8,8,8,8,8,8,8,8,8,8,8,8,8,8,8,8,8,8,8,8,8,8,8,8,8,8,8,8,8,8,8,8,8,8,8,8,8,8,8,8,8,8,8,8,8,8,8,8,8,8,8,8,8,8,8,8,8,8,8,8,8,8,8,8,8,8,8,8]) (IntKind.u8.wrap (Int.fdiv x0 (2 ^ 8)))))))) (GX.m rfl (GX.done (WK.ret ?_))))))
   subst hR
   exact RetQ.fr [] (.inr rfl) rfl rfl rfl rfl
 ·rw [hb1]; try simp only [hb1,bb] at hR
  refine WK.condT rfl (WK.sr mixed (GX.m rfl (GX.q (.int .u32 (Int.fdiv x0 (2 ^ 16))) (GX.m rfl (GX.done (WK.regx mixed (GX.m rfl (GX.done (WK.seq (WK.sr mixed (GX.m rfl (GX.q (.bool (decide (256 ≤ (Int.fdiv x0 (2 ^ 16))))) (GX.done ?_)))))))))))))
  rcases qq (decide (256 ≤ (Int.fdiv x0 (2 ^ 16)))) with hb3 | hb3
  ·rw [hb3]; try simp only [hb3,bb] at hR
   refine WK.condF rfl (WK.skip (WK.sr mixed (GX.m rfl (GX.m rfl (GX.q (.int .u8 (IntKind.u8.wrap (Int.fdiv x0 (2 ^ 16)))) (GX.pure (v':=.int .u8 (strAt (bstr [0,1,2,2,3,3,3,3,4,4,4,4,4,4,4,4,5,5,5,5,5,5,5,5,5,5,5,5,5,5,5,5,6,6,6,6,6,6,6,6,6,6,6,6,6,6,6,6,6,6,6,6,6,6,6,6,6,6,6,6,6,6,6,6,7,7,7,7,7,7,7,7,7,7,7,7,7,7,7,7,7,7,7,7,7,7,7,7,7,7,7,7,7,7,7,7,7,7,7,7,7,7,7,7,7,7,7,7,7,7,7,7,7,7,7,7,7,7,7,7,7,7,7,7,7,7,7,7,8,8,8,8,8,8,8,8,8,8,8,8,8,8,8,8,8,8,8,8,8,8,8,8,8,8,8,8,8,8,8,8,8,8,8,8,8,8,8,8,8,8,8,8,8,8,8,8,8,8,8,8,8,8,8,8,8,8,8,8,8,8,8,8,8,8,8,8,8,8,8,8,8,8,8,8,8,8,8,8,8,8,8,8,8,8,8,8,8,8,8,8,8,8,8,8,8,8,8,8,8,8,8,8,8,8,8,8,8,8,8,8,8,8,8,8,8,8,8,8,8,8,8,8,8,8,8,8]) (IntKind.u8.wrap (Int.fdiv x0 (2 ^ 16))))) rfl rfl rfl (core_idxS256 rfl) rfl (GX.q (.int .i64 (IntKind.i64.wrap (strAt (bstr [0,1,2,2,3,3,3,3,4,4,4,4,4,4,4,4,5,5,5,5,5,5,5,5,5,5,5,5,5,5,5,5,6,6,6,6,6,6,6,6,6,6,6,6,6,6,6,6,6,6,6,6,6,6,6,6,6,6,6,6,6,6,6,6,7,7,7,7,7,7,7,7,7,7,7,7,7,7,7,7,7,7,7,7,7,7,7,7,7,7,7,7,7,7,7,7,7,7,7,7,7,7,7,7,7,7,7,7,7,7,7,7,7,7,7,7,7,7,7,7,7,7,7,7,7,7,7,7,8,8,8,8,8,8,8,8,8,8,8,8,8,8,8,8,8,8,8,8,8,8,8,8,8,8,8,8,8,8,8,8,8,8,8,8,8,8,8,8,8,8,8,8,8,8,8,8,8,8,8,8,8,8,8,8,8,8,8,8,8,8,8,8,8,8,8,8,8,8,8,8,8,8,8,8,8,8,8,8,8,8,8,8,8,8,8,8,8,8,8,8,8,8,8,8,8,8,8,8,8,8,8,8,8,8,8,8,8,8,8,8,8,8,8,8,8,8,8,8,8,8,8,8,8,8,8,8]) (IntKind.u8.wrap (Int.fdiv x0 (2 ^ 16)))))) (GX.q (.int .i64 (IntKind.i64.wrap (16 + (IntKind.i64.wrap (strAt (bstr [0,1,2,2,3,3,3,3,4,4,4,4,4,4,4,4,5,5,5,5,5,5,5,5,5,5,5,5,5,5,5,5,6,6,6,6,6,6,6,6,6,6,6,6,6,6,6,6,6,6,6,6,6,6,6,6,6,6,6,6,6,6,6,6,7,7,7,7,7,7,7,7,7,7,7,7,7,7,7,7,7,7,7,7,7,7,7,7,7,7,7,7,7,7,7,7,7,7,7,7,7,7,7,7,7,7,7,7,7,7,7,7,7,7,7,7,7,7,7,7,7,7,7,7,7,7,7,7,8,8,8,8,8,8,8,8,8,8,8,8,8,8,8,8,8,8,8,8,8,8,8,8,8,8,8,8,8,8,8,8,8,8,8,8,8,8,8,8,8,8,8,8,8,8,8,8,8,8,8,8,8,8,8,8,8,8,8,8,8,8,8,8,8,8,8,8,8,8,8,8,8,8,8,8,8,8,8,8,8,8,8,8,8,8,8,8,8,8,8,8,8,8,8,8,8,8,8,8,8,8,8,8,8,8,8,8,8,8,8,8,8,8,8,8,8,8,8,8,8,8,8,8,8,8,8,8]) (IntKind.u8.wrap (Int.fdiv x0 (2 ^ 16)))))))) (GX.m rfl (GX.done (WK.ret ?_)))))))))))
   subst hR
   exact RetQ.fr [] (.inr rfl) rfl rfl rfl rfl
  ·rw [hb3]; try simp only [hb3,bb] at hR
   refine WK.condT rfl (WK.sr mixed (GX.m rfl (GX.q (.int .u32 (Int.fdiv (Int.fdiv x0 (2 ^ 16)) (2 ^ 8))) (GX.m rfl (GX.done (WK.regx mixed (GX.m rfl (GX.q (.int .i64 24) (GX.m rfl (GX.done (WK.sr mixed (GX.m rfl (GX.m rfl ?_)))))))))))))
   refine GX.q (.int .u8 (IntKind.u8.wrap (Int.fdiv (Int.fdiv x0 (2 ^ 16)) (2 ^ 8)))) (GX.pure (v':=.int .u8 (strAt (bstr [0,1,2,2,3,3,3,3,4,4,4,4,4,4,4,4,5,5,5,5,5,5,5,5,5,5,5,5,5,5,5,5,6,6,6,6,6,6,6,6,6,6,6,6,6,6,6,6,6,6,6,6,6,6,6,6,6,6,6,6,6,6,6,6,7,7,7,7,7,7,7,7,7,7,7,7,7,7,7,7,7,7,7,7,7,7,7,7,7,7,7,7,7,7,7,7,7,7,7,7,7,7,7,7,7,7,7,7,7,7,7,7,7,7,7,7,7,7,7,7,7,7,7,7,7,7,7,7,8,8,8,8,8,8,8,8,8,8,8,8,8,8,8,8,8,8,8,8,8,8,8,8,8,8,8,8,8,8,8,8,8,8,8,8,8,8,8,8,8,8,8,8,8,8,8,8,8,8,8,8,8,8,8,8,8,8,8,8,8,8,8,8,8,8,8,8,8,8,8,8,8,8,8,8,8,8,8,8,8,8,8,8,8,8,8,8,8,8,8,8,8,8,8,8,8,8,8,8,8,8,8,8,8,8,8,8,8,8,8,8,8,8,8,8,8,8,8,8,8,8,8,8,8,8,8,8]) (IntKind.u8.wrap (Int.fdiv (Int.fdiv x0 (2 ^ 16)) (2 ^ 8))))) rfl rfl rfl (core_idxS256 rfl) rfl (GX.q (.int .i64 (IntKind.i64.wrap (strAt (bstr [0,1,2,2,3,3,3,3,4,4,4,4,4,4,4,4,5,5,5,5,5,5,5,5,5,5,5,5,5,5,5,5,6,6,6,6,6,6,6,6,6,6,6,6,6,6,6,6,6,6,6,6,6,6,6,6,6,6,6,6,6,6,6,6,7,7,7,7,7,7,7,7,7,7,7,7,7,7,7,7,7,7,7,7,7,7,7,7,7,7,7,7,7,7,7,7,7,7,7,7,7,7,7,7,7,7,7,7,7,7,7,7,7,7,7,7,7,7,7,7,7,7,7,7,7,7,7,7,8,8,8,8,8,8,8,8,8,8,8,8,8,8,8,8,8,8,8,8,8,8,8,8,8,8,8,8,8,8,8,8,8,8,8,8,8,8,8,8,8,8,8,8,8,8,8,8,8,8,8,8,8,8,8,8,8,8,8,8,8,8,8,8,8,8,8,8,8,8,8,8,8,8,8,8,8,8,8,8,8,8,8,8,8,8,8,8,8,8,8,8,8,8,8,8,8,8,8,8,8,8,8,8,8,8,8,8,8,8,8,8,8,8,8,8,8,8,8,8,8,8,8,8,8,8,8,8]) (IntKind.u8.wrap (Int.fdiv (Int.fdiv x0 (2 ^ 16)) (2 ^ 8)))))) (GX.q (.int .i64 (IntKind.i64.wrap (24 + (IntKind.i64.wrap (strAt (bstr [0,1,2,2,3,3,3,3,4,4,4,4,4,4,4,4,5,5,5,5,5,5,5,5,5,5,5,5,5,5,5,5,6,6,6,6,6,6,6,6,6,6,6,6,6,6,6,6,6,6,6,6,6,6,6,6,6,6,6,6,6,6,6,6,7,7,7,7,7,7,7,7,7,7,7,7,7,7,7,7,7,7,7,7,7,7,7,7,7,7,7,7,7,7,7,7,7,7,7,7,7,7,7,7,7,7,7,7,7,7,7,7,7,7,7,7,7,7,7,7,7,7,7,7,7,7,7,7,8,8,8,8,8,8,8,8,8,8,8,8,8,8,8,8,8,8,8,8,8,8,8,8,8,8,8,8,8,8,8,8,8,8,8,8,8,8,8,8,8,8,8,8,8,8,8,8,8,8,8,8,8,8,8,8,8,8,8,8,8,8,8,8,8,8,8,8,8,8,8,8,8,8,8,8,8,8,8,8,8,8,8,8,8,8,8,8,8,8,8,8,8,8,8,8,8,8,8,8,8,8,8,8,8,8,8,8,8,8,8,8,8,8,8,8,8,8,8,8,8,8,8,8,8,8,8,8]) (IntKind.u8.wrap (Int.fdiv (Int.fdiv x0 (2 ^ 16)) (2 ^ 8)))))))) (GX.m rfl (GX.done (WK.ret ?_))))))
   subst hR
   exact RetQ.fr [] (.inr rfl) rfl rfl rfl rfl
theorem f78_ok (x0:Int) (R:Int) (hR:F78 x0 = R):FnOk Tryz.prog 78 [.int .u32 x0] [] 0 (.int .i64 R) [] 0:=by
 refine FnOk.wk i78 rfl rfl ?_
 unfold F78 at hR
 change WK _ _ _ [ac78] _ ⟨[(0,.int .u32 x0)],[],0⟩
 unfold ac78
 refine WK.sr mixed (GX.m rfl (GX.done (WK.sr mixed (GX.m rfl ?_))))
 generalize hc4:F75 x0 = c4 at hR
 try dsimp only at hR
 refine GX.callp (r:=.int .i64 c4) rfl rfl rfl (f75_ok x0 _ hc4) rfl rfl (GX.q (.int .i64 (IntKind.i64.wrap (32 - c4))) (GX.m rfl (GX.done (WK.ret ?_))))
 subst hR
 exact RetQ.fr [] (.inr rfl) rfl rfl rfl rfl
theorem f61_ok (p0:qk) (q1:qk) (R:qk) (hR:F61 p0 q1 = R):FnOk Tryz.prog 61 [.agg (qk.c p0),.agg (qk.c q1)] [] 0 (.agg (qk.c R)) [] 0:=by
 refine FnOk.wk i61 rfl rfl ?_
 unfold F61 at hR
 change WK _ _ _ [ac61] _ ⟨[(0,.agg (qk.c p0)),(1,.agg (qk.c q1))],[],0⟩
 unfold ac61
 refine WK.sr mixed (GX.step (v':=.ptr 0 0) (zx:=[(0,.box (qk.c p0))]) (zy:=1) rfl rfl rfl rfl rfl rfl rfl (GX.step (v':=.ptr 1 0) (zx:=[(0,.box (qk.c p0)),(1,.box (qk.c q1))]) (zy:=2) rfl rfl rfl rfl rfl rfl rfl (GX.step (v':=.ptr 2 0) (zx:=[(0,.box (qk.c p0)),(1,.box (qk.c q1)),(2,.box [.int .u32 0,.int .i64 0])]) (zy:=3) rfl rfl rfl rfl rfl rfl rfl (GX.done (WK.seq (WK.sr mixed (GX.q (.agg (qk.c p0)) ?_)))))))
 generalize hc7:F28 p0 = c7 at hR
 try dsimp only at hR
 refine GX.callp (r:=.bool c7) rfl rfl rfl (f28_ok p0 _ hc7) rfl rfl (GX.q (.bool (!c7)) (GX.m rfl ?_))
 rcases qq (c7) with hb1 | hb1
 ·rw [hb1]; try simp only [hb1,bb] at hR
  refine GX.skip rfl rfl (GX.skip rfl rfl (GX.skip rfl rfl (GX.q (.bool true) (GX.done (WK.condT rfl (WK.sr mixed (GX.q (.agg [.int .u32 0,.int .i64 0]) (GX.step0 (zx:=[(0,.box (qk.c p0)),(1,.box (qk.c q1)),(2,.box [.int .u32 0,.int .i64 0])]) (zy:=3) rfl rfl rfl rfl rfl (GX.done (WK.ret ?_))))))))))
  subst hR
  exact RetQ.fr [] (.inr rfl) rfl rfl rfl rfl
 ·rw [hb1]; try simp only [hb1,bb] at hR
  refine GX.q (.agg (qk.c q1)) ?_
  generalize hc11:F28 q1 = c11 at hR
  try dsimp only at hR
  refine GX.callp (r:=.bool c11) rfl rfl rfl (f28_ok q1 _ hc11) rfl rfl (GX.q (.bool (!c11)) (GX.q (.bool (!c11)) (GX.done ?_)))
  rcases qq (c11) with hb2 | hb2
  ·rw [hb2]; try simp only [hb2,bb] at hR
   refine WK.condT rfl (WK.sr mixed (GX.q (.agg [.int .u32 0,.int .i64 0]) (GX.step0 (zx:=[(0,.box (qk.c p0)),(1,.box (qk.c q1)),(2,.box [.int .u32 0,.int .i64 0])]) (zy:=3) rfl rfl rfl rfl rfl (GX.done (WK.ret ?_)))))
   subst hR
   exact RetQ.fr [] (.inr rfl) rfl rfl rfl rfl
  ·rw [hb2]; try simp only [hb2,bb] at hR
   refine WK.condF rfl (WK.skip (WK.seq (WK.drawn mixed (RD.q (.ptr 0 1) (RD.q (.int .i64 p0.N) (RD.q (.ptr 1 1) (RD.q (.int .i64 q1.N) (RD.q (.ptr 0 0) (RD.q (.int .u32 p0.A) (RD.q (.ptr 1 0) (RD.q (.int .u32 q1.A) (RD.q (.int .u32 (bit_xor .u32 p0.A q1.A)) ?_))))))))))))
   generalize hc24:F78 (bit_xor .u32 p0.A q1.A) = c24 at hR
   try dsimp only at hR
   refine RD.callp (r:=.int .i64 c24) rfl rfl rfl (f78_ok (bit_xor .u32 p0.A q1.A) _ hc24) rfl rfl (RD.q (.int .i64 (min_ (min_ p0.N q1.N) c24)) (RD.m rfl (RD.done rfl (WK.seq (WK.drawn mixed (RD.q (.ptr 0 0) (RD.q (.int .u32 p0.A) (RD.m rfl ?_))))))))
   generalize hc29:F44 (min_ (min_ p0.N q1.N) c24) = c29 at hR
   try dsimp only at hR
   refine RD.callp (r:=.int .u32 c29) rfl rfl rfl (f44_ok (min_ (min_ p0.N q1.N) c24) _ hc29) rfl rfl (RD.q (.int .u32 (bit_and .u32 p0.A c29)) (RD.m rfl (RD.q (.agg [.int .u32 (bit_and .u32 p0.A c29),.int .i64 (min_ (min_ p0.N q1.N) c24)]) (RD.step0 (zx:=[(0,.box (qk.c p0)),(1,.box (qk.c q1)),(2,.box [.int .u32 (bit_and .u32 p0.A c29),.int .i64 (min_ (min_ p0.N q1.N) c24)])]) (zy:=3) rfl rfl rfl rfl rfl (RD.done rfl (WK.ret ?_))))))
   subst hR
   exact RetQ.fr [] (.inr rfl) rfl rfl rfl rfl
theorem f45_ok (fuel:Nat) : ∀ (t0:TTrie) (i1:Int) (p2:qk) (v3:Int) (R:Int × TTrie) (hR:F45 fuel t0 i1 p2 v3 = some R),FnOk Tryz.prog 45 [.ptr 0 0,.int .i64 i1,.agg (qk.c p2),.int .i64 v3] [(0,.box [.own 1 6 0 t0.l.length,.own 2 1 0 t0.free.length,.int .i64 t0.root,.int .i64 t0.n]),(1,.row 6 101 (t0.l.map TNode.c)),(2,.row 1 3 (t0.free.map c_i64))] 3 (.int .i64 R.1) [(0,.box [.own 3 6 0 R.2.l.length,.own 4 1 0 R.2.free.length,.int .i64 R.2.root,.int .i64 R.2.n]),(3,.row 6 101 (R.2.l.map TNode.c)),(4,.row 1 3 (R.2.free.map c_i64))] 5:=by
 induction fuel with
 | zero=>intro t0 i1 p2 v3 R hR; cases hR
 | succ fuel ih =>
  intro t0 i1 p2 v3 R hR
  refine FnOk.wk i45 rfl rfl ?_
  unfold F45 at hR
  try dsimp only at hR
  change WK _ _ _ [ac45] _ ⟨[(0,.ptr 0 0),(1,.int .i64 i1),(2,.agg (qk.c p2)),(3,.int .i64 v3)],[(0,.box [.own 1 6 0 t0.l.length,.own 2 1 0 t0.free.length,.int .i64 t0.root,.int .i64 t0.n]),(1,.row 6 101 (t0.l.map TNode.c)),(2,.row 1 3 (t0.free.map c_i64))],3⟩
  unfold ac45
  refine WK.mvB (id:=0) (j:=0) (zx:=[(0,.box [.own 3 6 0 t0.l.length,.own 2 1 0 t0.free.length,.int .i64 t0.root,.int .i64 t0.n]),(2,.row 1 3 (t0.free.map c_i64)),(3,.row 6 101 (t0.l.map TNode.c))]) rfl rfl rfl (by simp) rfl (WK.mvB (id:=0) (j:=1) (zx:=[(0,.box [.own 3 6 0 t0.l.length,.own 4 1 0 t0.free.length,.int .i64 t0.root,.int .i64 t0.n]),(3,.row 6 101 (t0.l.map TNode.c)),(4,.row 1 3 (t0.free.map c_i64))]) rfl rfl rfl (by simp) rfl (WK.sr mixed (GX.step (v':=.ptr 5 0) (zx:=[(0,.box [.own 3 6 0 t0.l.length,.own 4 1 0 t0.free.length,.int .i64 t0.root,.int .i64 t0.n]),(3,.row 6 101 (t0.l.map TNode.c)),(4,.row 1 3 (t0.free.map c_i64)),(5,.box (qk.c p2))]) (zy:=6) rfl rfl rfl rfl rfl rfl rfl (GX.m rfl (GX.done (WK.seq (WK.sr mixed (GX.m rfl (GX.q (.bool (decide (i1 = (-1)))) (GX.done ?_))))))))))
  rcases qq (decide (i1 = (-1))) with hb1 | hb1
  ·rw [hb1]; first | replace hR:=wz hb1 hR | (try simp only [hb1,bb] at hR)
   refine WK.condF rfl (WK.skip (WK.sr mixed (GX.m rfl (GX.q (.ptr 0 0) (GX.q (.ptr 0 0) (GX.q (.own 3 6 0 t0.l.length) (GX.m rfl ?_)))))))
   obtain ⟨x901,hx901,hR⟩:=zz hR; try dsimp only at hR
   obtain ⟨hx9010,hx901j,hx901l,hx901⟩:=zk hx901
   refine GX.pure (v':=.eptr 3 6 i1.toNat 0) rfl rfl rfl (core_idxoT (c:=TNode.c) (L:=t0.l) (j:=i1.toNat) rfl hx901j hx901l (by exact Nat.le_refl _)) rfl (GX.pure (v':=.eptr 3 6 i1.toNat 0) rfl rfl rfl (core_fldT (c:=TNode.c) (L:=t0.l) rfl (by omega) rfl) rfl (GX.pure (v':=.agg [.int .u32 x901.p.A,.int .i64 x901.p.N]) rfl rfl rfl (core_loaT (c:=TNode.c) (L:=t0.l) (x:=x901) rfl hx901 rfl) rfl (GX.step (v':=.ptr 6 0) (zx:=[(0,.box [.own 3 6 0 t0.l.length,.own 4 1 0 t0.free.length,.int .i64 t0.root,.int .i64 t0.n]),(3,.row 6 101 (t0.l.map TNode.c)),(4,.row 1 3 (t0.free.map c_i64)),(5,.box (qk.c p2)),(6,.box [.int .u32 0,.int .i64 0])]) (zy:=7) rfl rfl rfl rfl rfl rfl rfl (GX.step0 (zx:=[(0,.box [.own 3 6 0 t0.l.length,.own 4 1 0 t0.free.length,.int .i64 t0.root,.int .i64 t0.n]),(3,.row 6 101 (t0.l.map TNode.c)),(4,.row 1 3 (t0.free.map c_i64)),(5,.box (qk.c p2)),(6,.box (qk.c x901.p))]) (zy:=7) rfl rfl rfl rfl rfl (GX.done (WK.seq ?_))))))
   refine WK.blockK (fun _ hK3=>?_)
   refine WK.sr mixed (GX.q (.agg (qk.c x901.p)) (GX.q (.agg (qk.c p2)) (GX.q (.bool (decide (x901.p.A = p2.A) && (decide (x901.p.N = p2.N) && true))) (GX.m rfl (GX.done ?_)))))
   rcases qq ((decide (x901.p.A = p2.A) && (decide (x901.p.N = p2.N) && true))) with hb4 | hb4
   ·rw [hb4]; try simp only [hb4,bb] at hR
    refine WK.condF rfl (WK.sr mixed (GX.q (.agg (qk.c x901.p)) (GX.q (.agg (qk.c p2)) ?_)))
    generalize hc75:F51 x901.p p2 = c75 at hR
    try dsimp only at hR
    refine GX.callp (r:=.bool c75) rfl rfl rfl (f51_ok x901.p p2 _ hc75) rfl rfl (GX.m rfl (GX.done ?_))
    rcases qq (c75) with hb5 | hb5
    ·rw [hb5]; first | replace hR:=wz hb5 hR | (try simp only [hb5,bb] at hR)
     refine WK.condF rfl (WK.skip ?_)
     refine WK.nil (QF.normal (hK3 _ ?_))
     refine WK.sr mixed (GX.m rfl (GX.q (.ptr 0 0) (GX.q (.ptr 0 3) (GX.q (.int .i64 t0.n) (GX.q (.int .i64 (IntKind.i64.wrap (t0.n + 1))) (GX.q (.ptr 0 0) (GX.q (.ptr 0 3) (GX.step0 (zx:=[(0,.box [.own 3 6 0 t0.l.length,.own 4 1 0 t0.free.length,.int .i64 t0.root,.int .i64 (IntKind.i64.wrap (t0.n + 1))]),(3,.row 6 101 (t0.l.map TNode.c)),(4,.row 1 3 (t0.free.map c_i64)),(5,.box (qk.c p2)),(6,.box (qk.c x901.p))]) (zy:=7) rfl rfl rfl rfl rfl (GX.done (WK.sr mixed (GX.q (.agg (qk.c p2)) (GX.m rfl ?_))))))))))))
     generalize hc113:F59 p2 v3 = c113 at hR
     try dsimp only at hR
     refine GX.callp (r:=.agg [.int .u32 c113.p.A,.int .i64 c113.p.N,.int .i64 c113.v,.bool c113.isf,.int .i64 c113.kids.e0,.int .i64 c113.kids.e1]) rfl rfl rfl (f59_ok p2 v3 _ hc113) rfl rfl (GX.step (v':=.ptr 7 0) (zx:=[(0,.box [.own 3 6 0 t0.l.length,.own 4 1 0 t0.free.length,.int .i64 t0.root,.int .i64 (IntKind.i64.wrap (t0.n + 1))]),(3,.row 6 101 (t0.l.map TNode.c)),(4,.row 1 3 (t0.free.map c_i64)),(5,.box (qk.c p2)),(6,.box (qk.c x901.p)),(7,.box [.int .u32 0,.int .i64 0,.int .i64 0,.bool false,.int .i64 0,.int .i64 0])]) (zy:=8) rfl rfl rfl rfl rfl rfl rfl (GX.step0 (zx:=[(0,.box [.own 3 6 0 t0.l.length,.own 4 1 0 t0.free.length,.int .i64 t0.root,.int .i64 (IntKind.i64.wrap (t0.n + 1))]),(3,.row 6 101 (t0.l.map TNode.c)),(4,.row 1 3 (t0.free.map c_i64)),(5,.box (qk.c p2)),(6,.box (qk.c x901.p)),(7,.box (TNode.c c113))]) (zy:=8) rfl rfl rfl rfl rfl (GX.done (WK.seq (WK.sr mixed (GX.q (.agg (qk.c p2)) (GX.q (.agg (qk.c x901.p)) ?_)))))))
     generalize hc116:F51 p2 x901.p = c116 at hR
     try dsimp only at hR
     refine GX.callp (r:=.bool c116) rfl rfl rfl (f51_ok p2 x901.p _ hc116) rfl rfl (GX.done ?_)
     rcases qq (c116) with hb6 | hb6
     ·rw [hb6]; first | replace hR:=wz hb6 hR | (try simp only [hb6,bb] at hR)
      refine WK.condF rfl (WK.skip (WK.sr mixed (GX.q (.agg (qk.c p2)) (GX.q (.agg (qk.c x901.p)) ?_))))
      generalize hc128:F61 p2 x901.p = c128 at hR
      try dsimp only at hR
      refine GX.callp (r:=.agg [.int .u32 c128.A,.int .i64 c128.N]) rfl rfl rfl (f61_ok p2 x901.p _ hc128) rfl rfl (GX.q (.agg [.int .i64 (-1),.int .i64 (-1)]) (GX.q (.agg [.int .u32 c128.A,.int .i64 c128.N,.int .i64 0,.bool false,.int .i64 (-1),.int .i64 (-1)]) (GX.step (v':=.ptr 8 0) (zx:=[(0,.box [.own 3 6 0 t0.l.length,.own 4 1 0 t0.free.length,.int .i64 t0.root,.int .i64 (IntKind.i64.wrap (t0.n + 1))]),(3,.row 6 101 (t0.l.map TNode.c)),(4,.row 1 3 (t0.free.map c_i64)),(5,.box (qk.c p2)),(6,.box (qk.c x901.p)),(7,.box (TNode.c c113)),(8,.box [.int .u32 0,.int .i64 0,.int .i64 0,.bool false,.int .i64 0,.int .i64 0])]) (zy:=9) rfl rfl rfl rfl rfl rfl rfl (GX.step0 (zx:=[(0,.box [.own 3 6 0 t0.l.length,.own 4 1 0 t0.free.length,.int .i64 t0.root,.int .i64 (IntKind.i64.wrap (t0.n + 1))]),(3,.row 6 101 (t0.l.map TNode.c)),(4,.row 1 3 (t0.free.map c_i64)),(5,.box (qk.c p2)),(6,.box (qk.c x901.p)),(7,.box (TNode.c c113)),(8,.box [.int .u32 c128.A,.int .i64 c128.N,.int .i64 0,.bool false,.int .i64 (-1),.int .i64 (-1)])]) (zy:=9) rfl rfl rfl rfl rfl (GX.done (WK.sr mixed (GX.q (.ptr 8 0) (GX.q (.agg [.int .u32 c128.A,.int .i64 c128.N]) (GX.q (.agg (qk.c x901.p)) ?_)))))))))
      generalize hc134:F60 c128 x901.p = c134 at hR
      try dsimp only at hR
      refine GX.callp (r:=.int .i64 c134) rfl rfl rfl (f60_ok c128 x901.p _ hc134) rfl rfl (GX.m rfl (GX.q (.ptr 8 4) ?_))
      rcases Bool.eq_false_or_eq_true (decide (c134 = 0)) with hk7b | hk7b
      ·simp only [hk7b,bb] at hR
       have hk7:=of_decide_eq_true hk7b
       refine GX.pure (v':=.ptr 8 4) rfl rfl rfl (core_idxAAp (k:=0) rfl hk7 rfl rfl) rfl (GX.step0 (zx:=[(0,.box [.own 3 6 0 t0.l.length,.own 4 1 0 t0.free.length,.int .i64 t0.root,.int .i64 (IntKind.i64.wrap (t0.n + 1))]),(3,.row 6 101 (t0.l.map TNode.c)),(4,.row 1 3 (t0.free.map c_i64)),(5,.box (qk.c p2)),(6,.box (qk.c x901.p)),(7,.box (TNode.c c113)),(8,.box [.int .u32 c128.A,.int .i64 c128.N,.int .i64 0,.bool false,.int .i64 i1,.int .i64 (-1)])]) (zy:=9) rfl rfl rfl rfl rfl (GX.done (WK.seq (WK.drawn mixed (RD.q (.ptr 8 0) (RD.q (.agg [.int .u32 c128.A,.int .i64 c128.N]) (RD.q (.agg (qk.c p2)) ?_)))))))
       generalize hc141:F60 c128 p2 = c141 at hR
       try dsimp only at hR
       refine RD.callp (r:=.int .i64 c141) rfl rfl rfl (f60_ok c128 p2 _ hc141) rfl rfl (RD.m rfl (RD.q (.agg (TNode.c c113)) ?_))
       obtain ⟨c144,hc144,hR⟩:=zz hR; try dsimp only at hR
       refine RD.callx (r':=.int .i64 c144.1) (zx:=[(0,.box [.own 9 6 0 c144.2.l.length,.own 10 1 0 c144.2.free.length,.int .i64 c144.2.root,.int .i64 c144.2.n]),(5,.box (qk.c p2)),(6,.box (qk.c x901.p)),(7,.box (TNode.c c113)),(8,.box [.int .u32 c128.A,.int .i64 c128.N,.int .i64 0,.bool false,.int .i64 i1,.int .i64 (-1)]),(10,.row 1 3 (c144.2.free.map c_i64)),(9,.row 6 101 (c144.2.l.map TNode.c))]) (zy:=11) [0,3,4] [] rfl rfl rfl rfl rfl rfl (f58_ok (⟨t0.l,t0.free,t0.root,IntKind.i64.wrap (t0.n + 1)⟩ : TTrie) c113 _ hc144) (.inl rfl) rfl rfl rfl (RD.q (.ptr 8 4) ?_)
       rcases Bool.eq_false_or_eq_true (decide (c141 = 0)) with hk9b | hk9b
       ·simp only [hk9b,bb] at hR
        have hk9:=of_decide_eq_true hk9b
        refine RD.pure (v':=.ptr 8 4) rfl rfl rfl (core_idxAAp (k:=0) rfl hk9 rfl rfl) rfl (RD.step0 (zx:=[(0,.box [.own 9 6 0 c144.2.l.length,.own 10 1 0 c144.2.free.length,.int .i64 c144.2.root,.int .i64 c144.2.n]),(5,.box (qk.c p2)),(6,.box (qk.c x901.p)),(7,.box (TNode.c c113)),(8,.box [.int .u32 c128.A,.int .i64 c128.N,.int .i64 0,.bool false,.int .i64 c144.1,.int .i64 (-1)]),(10,.row 1 3 (c144.2.free.map c_i64)),(9,.row 6 101 (c144.2.l.map TNode.c))]) (zy:=11) rfl rfl rfl rfl rfl (RD.done rfl (WK.sr mixed (GX.m rfl (GX.q (.agg [.int .u32 c128.A,.int .i64 c128.N,.int .i64 0,.bool false,.int .i64 c144.1,.int .i64 (-1)]) ?_)))))
        obtain ⟨c149,hc149,hR⟩:=zz hR; try dsimp only at hR
        refine GX.callx (r':=.int .i64 c149.1) (zx:=[(0,.box [.own 11 6 0 c149.2.l.length,.own 12 1 0 c149.2.free.length,.int .i64 c149.2.root,.int .i64 c149.2.n]),(5,.box (qk.c p2)),(6,.box (qk.c x901.p)),(7,.box (TNode.c c113)),(8,.box [.int .u32 c128.A,.int .i64 c128.N,.int .i64 0,.bool false,.int .i64 c144.1,.int .i64 (-1)]),(12,.row 1 3 (c149.2.free.map c_i64)),(11,.row 6 101 (c149.2.l.map TNode.c))]) (zy:=13) [0,9,10] [] rfl rfl rfl rfl rfl rfl (f58_ok c144.2 (⟨c128,0,false,(⟨c144.1,(-1)⟩ : TS)⟩ : TNode) _ hc149) (.inl rfl) rfl rfl rfl (GX.m rfl (GX.done (WK.ret ?_)))
        obtain rfl:=Option.some.inj hR
        exact RetQ.ret [0,1,2,11,12] [] (.inr rfl) rfl rfl rfl rfl rfl .refl rfl
       simp only [hk9b,bb] at hR
       rcases Bool.eq_false_or_eq_true (decide (c141 = 1)) with hk11b | hk11b
       ·simp only [hk11b,bb] at hR
        have hk11:=of_decide_eq_true hk11b
        refine RD.pure (v':=.ptr 8 5) rfl rfl rfl (core_idxAAp (k:=1) rfl hk11 rfl rfl) rfl (RD.step0 (zx:=[(0,.box [.own 9 6 0 c144.2.l.length,.own 10 1 0 c144.2.free.length,.int .i64 c144.2.root,.int .i64 c144.2.n]),(5,.box (qk.c p2)),(6,.box (qk.c x901.p)),(7,.box (TNode.c c113)),(8,.box [.int .u32 c128.A,.int .i64 c128.N,.int .i64 0,.bool false,.int .i64 i1,.int .i64 c144.1]),(10,.row 1 3 (c144.2.free.map c_i64)),(9,.row 6 101 (c144.2.l.map TNode.c))]) (zy:=11) rfl rfl rfl rfl rfl (RD.done rfl (WK.sr mixed (GX.m rfl (GX.q (.agg [.int .u32 c128.A,.int .i64 c128.N,.int .i64 0,.bool false,.int .i64 i1,.int .i64 c144.1]) ?_)))))
        obtain ⟨c149,hc149,hR⟩:=zz hR; try dsimp only at hR
        refine GX.callx (r':=.int .i64 c149.1) (zx:=[(0,.box [.own 11 6 0 c149.2.l.length,.own 12 1 0 c149.2.free.length,.int .i64 c149.2.root,.int .i64 c149.2.n]),(5,.box (qk.c p2)),(6,.box (qk.c x901.p)),(7,.box (TNode.c c113)),(8,.box [.int .u32 c128.A,.int .i64 c128.N,.int .i64 0,.bool false,.int .i64 i1,.int .i64 c144.1]),(12,.row 1 3 (c149.2.free.map c_i64)),(11,.row 6 101 (c149.2.l.map TNode.c))]) (zy:=13) [0,9,10] [] rfl rfl rfl rfl rfl rfl (f58_ok c144.2 (⟨c128,0,false,(⟨i1,c144.1⟩ : TS)⟩ : TNode) _ hc149) (.inl rfl) rfl rfl rfl (GX.m rfl (GX.done (WK.ret ?_)))
        obtain rfl:=Option.some.inj hR
        exact RetQ.ret [0,1,2,11,12] [] (.inr rfl) rfl rfl rfl rfl rfl .refl rfl
       simp only [hk11b,bb] at hR
       cases hR
      simp only [hk7b,bb] at hR
      rcases Bool.eq_false_or_eq_true (decide (c134 = 1)) with hk13b | hk13b
      ·simp only [hk13b,bb] at hR
       have hk13:=of_decide_eq_true hk13b
       refine GX.pure (v':=.ptr 8 5) rfl rfl rfl (core_idxAAp (k:=1) rfl hk13 rfl rfl) rfl (GX.step0 (zx:=[(0,.box [.own 3 6 0 t0.l.length,.own 4 1 0 t0.free.length,.int .i64 t0.root,.int .i64 (IntKind.i64.wrap (t0.n + 1))]),(3,.row 6 101 (t0.l.map TNode.c)),(4,.row 1 3 (t0.free.map c_i64)),(5,.box (qk.c p2)),(6,.box (qk.c x901.p)),(7,.box (TNode.c c113)),(8,.box [.int .u32 c128.A,.int .i64 c128.N,.int .i64 0,.bool false,.int .i64 (-1),.int .i64 i1])]) (zy:=9) rfl rfl rfl rfl rfl (GX.done (WK.seq (WK.drawn mixed (RD.q (.ptr 8 0) (RD.q (.agg [.int .u32 c128.A,.int .i64 c128.N]) (RD.q (.agg (qk.c p2)) ?_)))))))
       generalize hc141:F60 c128 p2 = c141 at hR
       try dsimp only at hR
       refine RD.callp (r:=.int .i64 c141) rfl rfl rfl (f60_ok c128 p2 _ hc141) rfl rfl (RD.m rfl (RD.q (.agg (TNode.c c113)) ?_))
       obtain ⟨c144,hc144,hR⟩:=zz hR; try dsimp only at hR
       refine RD.callx (r':=.int .i64 c144.1) (zx:=[(0,.box [.own 9 6 0 c144.2.l.length,.own 10 1 0 c144.2.free.length,.int .i64 c144.2.root,.int .i64 c144.2.n]),(5,.box (qk.c p2)),(6,.box (qk.c x901.p)),(7,.box (TNode.c c113)),(8,.box [.int .u32 c128.A,.int .i64 c128.N,.int .i64 0,.bool false,.int .i64 (-1),.int .i64 i1]),(10,.row 1 3 (c144.2.free.map c_i64)),(9,.row 6 101 (c144.2.l.map TNode.c))]) (zy:=11) [0,3,4] [] rfl rfl rfl rfl rfl rfl (f58_ok (⟨t0.l,t0.free,t0.root,IntKind.i64.wrap (t0.n + 1)⟩ : TTrie) c113 _ hc144) (.inl rfl) rfl rfl rfl (RD.q (.ptr 8 4) ?_)
       rcases Bool.eq_false_or_eq_true (decide (c141 = 0)) with hk15b | hk15b
       ·simp only [hk15b,bb] at hR
        have hk15:=of_decide_eq_true hk15b
        refine RD.pure (v':=.ptr 8 4) rfl rfl rfl (core_idxAAp (k:=0) rfl hk15 rfl rfl) rfl (RD.step0 (zx:=[(0,.box [.own 9 6 0 c144.2.l.length,.own 10 1 0 c144.2.free.length,.int .i64 c144.2.root,.int .i64 c144.2.n]),(5,.box (qk.c p2)),(6,.box (qk.c x901.p)),(7,.box (TNode.c c113)),(8,.box [.int .u32 c128.A,.int .i64 c128.N,.int .i64 0,.bool false,.int .i64 c144.1,.int .i64 i1]),(10,.row 1 3 (c144.2.free.map c_i64)),(9,.row 6 101 (c144.2.l.map TNode.c))]) (zy:=11) rfl rfl rfl rfl rfl (RD.done rfl (WK.sr mixed (GX.m rfl (GX.q (.agg [.int .u32 c128.A,.int .i64 c128.N,.int .i64 0,.bool false,.int .i64 c144.1,.int .i64 i1]) ?_)))))
        obtain ⟨c149,hc149,hR⟩:=zz hR; try dsimp only at hR
        refine GX.callx (r':=.int .i64 c149.1) (zx:=[(0,.box [.own 11 6 0 c149.2.l.length,.own 12 1 0 c149.2.free.length,.int .i64 c149.2.root,.int .i64 c149.2.n]),(5,.box (qk.c p2)),(6,.box (qk.c x901.p)),(7,.box (TNode.c c113)),(8,.box [.int .u32 c128.A,.int .i64 c128.N,.int .i64 0,.bool false,.int .i64 c144.1,.int .i64 i1]),(12,.row 1 3 (c149.2.free.map c_i64)),(11,.row 6 101 (c149.2.l.map TNode.c))]) (zy:=13) [0,9,10] [] rfl rfl rfl rfl rfl rfl (f58_ok c144.2 (⟨c128,0,false,(⟨c144.1,i1⟩ : TS)⟩ : TNode) _ hc149) (.inl rfl) rfl rfl rfl (GX.m rfl (GX.done (WK.ret ?_)))
        obtain rfl:=Option.some.inj hR
        exact RetQ.ret [0,1,2,11,12] [] (.inr rfl) rfl rfl rfl rfl rfl .refl rfl
       simp only [hk15b,bb] at hR
       rcases Bool.eq_false_or_eq_true (decide (c141 = 1)) with hk17b | hk17b
       ·simp only [hk17b,bb] at hR
        have hk17:=of_decide_eq_true hk17b
        refine RD.pure (v':=.ptr 8 5) rfl rfl rfl (core_idxAAp (k:=1) rfl hk17 rfl rfl) rfl (RD.step0 (zx:=[(0,.box [.own 9 6 0 c144.2.l.length,.own 10 1 0 c144.2.free.length,.int .i64 c144.2.root,.int .i64 c144.2.n]),(5,.box (qk.c p2)),(6,.box (qk.c x901.p)),(7,.box (TNode.c c113)),(8,.box [.int .u32 c128.A,.int .i64 c128.N,.int .i64 0,.bool false,.int .i64 (-1),.int .i64 c144.1]),(10,.row 1 3 (c144.2.free.map c_i64)),(9,.row 6 101 (c144.2.l.map TNode.c))]) (zy:=11) rfl rfl rfl rfl rfl (RD.done rfl (WK.sr mixed (GX.m rfl (GX.q (.agg [.int .u32 c128.A,.int .i64 c128.N,.int .i64 0,.bool false,.int .i64 (-1),.int .i64 c144.1]) ?_)))))
        obtain ⟨c149,hc149,hR⟩:=zz hR; try dsimp only at hR
        refine GX.callx (r':=.int .i64 c149.1) (zx:=[(0,.box [.own 11 6 0 c149.2.l.length,.own 12 1 0 c149.2.free.length,.int .i64 c149.2.root,.int .i64 c149.2.n]),(5,.box (qk.c p2)),(6,.box (qk.c x901.p)),(7,.box (TNode.c c113)),(8,.box [.int .u32 c128.A,.int .i64 c128.N,.int .i64 0,.bool false,.int .i64 (-1),.int .i64 c144.1]),(12,.row 1 3 (c149.2.free.map c_i64)),(11,.row 6 101 (c149.2.l.map TNode.c))]) (zy:=13) [0,9,10] [] rfl rfl rfl rfl rfl rfl (f58_ok c144.2 (⟨c128,0,false,(⟨(-1),c144.1⟩ : TS)⟩ : TNode) _ hc149) (.inl rfl) rfl rfl rfl (GX.m rfl (GX.done (WK.ret ?_)))
        obtain rfl:=Option.some.inj hR
        exact RetQ.ret [0,1,2,11,12] [] (.inr rfl) rfl rfl rfl rfl rfl .refl rfl
       simp only [hk17b,bb] at hR
       cases hR
      simp only [hk13b,bb] at hR
      cases hR
     ·rw [hb6]; first | replace hR:=wy hb6 hR | (try simp only [hb6,bb] at hR)
      refine WK.condT rfl (WK.sr mixed (GX.q (.agg (qk.c p2)) (GX.q (.agg (qk.c x901.p)) ?_)))
      generalize hc119:F60 p2 x901.p = c119 at hR
      try dsimp only at hR
      refine GX.callp (r:=.int .i64 c119) rfl rfl rfl (f60_ok p2 x901.p _ hc119) rfl rfl (GX.m rfl (GX.q (.ptr 7 4) ?_))
      rcases Bool.eq_false_or_eq_true (decide (c119 = 0)) with hk19b | hk19b
      ·simp only [hk19b,bb] at hR
       have hk19:=of_decide_eq_true hk19b
       refine GX.pure (v':=.ptr 7 4) rfl rfl rfl (core_idxAAp (k:=0) rfl hk19 rfl rfl) rfl (GX.step0 (zx:=[(0,.box [.own 3 6 0 t0.l.length,.own 4 1 0 t0.free.length,.int .i64 t0.root,.int .i64 (IntKind.i64.wrap (t0.n + 1))]),(3,.row 6 101 (t0.l.map TNode.c)),(4,.row 1 3 (t0.free.map c_i64)),(5,.box (qk.c p2)),(6,.box (qk.c x901.p)),(7,.box [.int .u32 c113.p.A,.int .i64 c113.p.N,.int .i64 c113.v,.bool c113.isf,.int .i64 i1,.int .i64 c113.kids.e1])]) (zy:=8) rfl rfl rfl rfl rfl (GX.done (WK.sr mixed (GX.m rfl (GX.q (.agg [.int .u32 c113.p.A,.int .i64 c113.p.N,.int .i64 c113.v,.bool c113.isf,.int .i64 i1,.int .i64 c113.kids.e1]) ?_)))))
       obtain ⟨c125,hc125,hR⟩:=zz hR; try dsimp only at hR
       refine GX.callx (r':=.int .i64 c125.1) (zx:=[(0,.box [.own 8 6 0 c125.2.l.length,.own 9 1 0 c125.2.free.length,.int .i64 c125.2.root,.int .i64 c125.2.n]),(5,.box (qk.c p2)),(6,.box (qk.c x901.p)),(7,.box [.int .u32 c113.p.A,.int .i64 c113.p.N,.int .i64 c113.v,.bool c113.isf,.int .i64 i1,.int .i64 c113.kids.e1]),(9,.row 1 3 (c125.2.free.map c_i64)),(8,.row 6 101 (c125.2.l.map TNode.c))]) (zy:=10) [0,3,4] [] rfl rfl rfl rfl rfl rfl (f58_ok (⟨t0.l,t0.free,t0.root,IntKind.i64.wrap (t0.n + 1)⟩ : TTrie) (⟨c113.p,c113.v,c113.isf,(⟨i1,c113.kids.e1⟩ : TS)⟩ : TNode) _ hc125) (.inl rfl) rfl rfl rfl (GX.m rfl (GX.done (WK.ret ?_)))
       obtain rfl:=Option.some.inj hR
       exact RetQ.ret [0,1,2,8,9] [] (.inr rfl) rfl rfl rfl rfl rfl .refl rfl
      simp only [hk19b,bb] at hR
      rcases Bool.eq_false_or_eq_true (decide (c119 = 1)) with hk21b | hk21b
      ·simp only [hk21b,bb] at hR
       have hk21:=of_decide_eq_true hk21b
       refine GX.pure (v':=.ptr 7 5) rfl rfl rfl (core_idxAAp (k:=1) rfl hk21 rfl rfl) rfl (GX.step0 (zx:=[(0,.box [.own 3 6 0 t0.l.length,.own 4 1 0 t0.free.length,.int .i64 t0.root,.int .i64 (IntKind.i64.wrap (t0.n + 1))]),(3,.row 6 101 (t0.l.map TNode.c)),(4,.row 1 3 (t0.free.map c_i64)),(5,.box (qk.c p2)),(6,.box (qk.c x901.p)),(7,.box [.int .u32 c113.p.A,.int .i64 c113.p.N,.int .i64 c113.v,.bool c113.isf,.int .i64 c113.kids.e0,.int .i64 i1])]) (zy:=8) rfl rfl rfl rfl rfl (GX.done (WK.sr mixed (GX.m rfl (GX.q (.agg [.int .u32 c113.p.A,.int .i64 c113.p.N,.int .i64 c113.v,.bool c113.isf,.int .i64 c113.kids.e0,.int .i64 i1]) ?_)))))
       obtain ⟨c125,hc125,hR⟩:=zz hR; try dsimp only at hR
       refine GX.callx (r':=.int .i64 c125.1) (zx:=[(0,.box [.own 8 6 0 c125.2.l.length,.own 9 1 0 c125.2.free.length,.int .i64 c125.2.root,.int .i64 c125.2.n]),(5,.box (qk.c p2)),(6,.box (qk.c x901.p)),(7,.box [.int .u32 c113.p.A,.int .i64 c113.p.N,.int .i64 c113.v,.bool c113.isf,.int .i64 c113.kids.e0,.int .i64 i1]),(9,.row 1 3 (c125.2.free.map c_i64)),(8,.row 6 101 (c125.2.l.map TNode.c))]) (zy:=10) [0,3,4] [] rfl rfl rfl rfl rfl rfl (f58_ok (⟨t0.l,t0.free,t0.root,IntKind.i64.wrap (t0.n + 1)⟩ : TTrie) (⟨c113.p,c113.v,c113.isf,(⟨c113.kids.e0,i1⟩ : TS)⟩ : TNode) _ hc125) (.inl rfl) rfl rfl rfl (GX.m rfl (GX.done (WK.ret ?_)))
       obtain rfl:=Option.some.inj hR
       exact RetQ.ret [0,1,2,8,9] [] (.inr rfl) rfl rfl rfl rfl rfl .refl rfl
      simp only [hk21b,bb] at hR
      cases hR
    ·rw [hb5]; first | replace hR:=wy hb5 hR | (try simp only [hb5,bb] at hR)
     refine WK.condT rfl (WK.sr mixed (GX.q (.agg (qk.c x901.p)) (GX.q (.agg (qk.c p2)) ?_)))
     generalize hc78:F60 x901.p p2 = c78 at hR
     try dsimp only at hR
     refine GX.callp (r:=.int .i64 c78) rfl rfl rfl (f60_ok x901.p p2 _ hc78) rfl rfl (GX.m rfl (GX.done (WK.seq (WK.drawn mixed (RD.m rfl (RD.m rfl (RD.q (.ptr 0 0) (RD.q (.ptr 0 0) (RD.q (.own 3 6 0 t0.l.length) (RD.m rfl (RD.m rfl (RD.pure (v':=.eptr 3 6 i1.toNat 0) rfl rfl rfl (core_idxoT (c:=TNode.c) (L:=t0.l) (j:=i1.toNat) rfl hx901j hx901l (by exact Nat.le_refl _)) rfl (RD.pure (v':=.eptr 3 6 i1.toNat 4) rfl rfl rfl (core_fldT (c:=TNode.c) (L:=t0.l) rfl (by omega) rfl) rfl ?_)))))))))))))
     rcases Bool.eq_false_or_eq_true (decide (c78 = 0)) with hk23b | hk23b
     ·simp only [hk23b,bb] at hR
      have hk23:=of_decide_eq_true hk23b
      refine RD.pure (v':=.eptr 3 6 i1.toNat 4) rfl rfl rfl (core_idxAAe (c:=TNode.c) (L:=t0.l) (k:=0) rfl hk23 rfl (by omega) rfl) rfl (RD.pure (v':=.int .i64 x901.kids.e0) rfl rfl rfl (core_loaT (c:=TNode.c) (L:=t0.l) (x:=x901) rfl hx901 rfl) rfl (RD.q (.agg (qk.c p2)) (RD.m rfl ?_)))
      obtain ⟨c92,hc92,hR⟩:=zz hR; try dsimp only at hR
      refine RD.callx (r':=.int .i64 c92.1) (zx:=[(0,.box [.own 7 6 0 c92.2.l.length,.own 8 1 0 c92.2.free.length,.int .i64 c92.2.root,.int .i64 c92.2.n]),(5,.box (qk.c p2)),(6,.box (qk.c x901.p)),(8,.row 1 3 (c92.2.free.map c_i64)),(7,.row 6 101 (c92.2.l.map TNode.c))]) (zy:=9) [0,3,4] [] rfl rfl rfl rfl rfl rfl (ih t0 x901.kids.e0 p2 v3 _ hc92) (.inl rfl) rfl rfl rfl (RD.m rfl (RD.done rfl (WK.sr mixed (GX.m rfl (GX.q (.ptr 0 0) (GX.q (.ptr 0 0) (GX.q (.own 7 6 0 c92.2.l.length) (GX.m rfl (GX.m rfl (GX.m rfl ?_))))))))))
      obtain ⟨x924,hx924,hR⟩:=zz hR; try dsimp only at hR
      obtain ⟨hx9240,hx924j,hx924l,hx924⟩:=zk hx924
      refine GX.pure (v':=.eptr 7 6 i1.toNat 0) rfl rfl rfl (core_idxoT (c:=TNode.c) (L:=c92.2.l) (j:=i1.toNat) rfl hx924j hx924l (by exact Nat.le_refl _)) rfl (GX.pure (v':=.eptr 7 6 i1.toNat 4) rfl rfl rfl (core_fldT (c:=TNode.c) (L:=c92.2.l) rfl (by omega) rfl) rfl (GX.pure (v':=.eptr 7 6 i1.toNat 4) rfl rfl rfl (core_idxAAe (c:=TNode.c) (L:=c92.2.l) (k:=0) rfl hk23 rfl (by omega) rfl) rfl (GX.step0 (zx:=[(0,.box [.own 7 6 0 c92.2.l.length,.own 8 1 0 c92.2.free.length,.int .i64 c92.2.root,.int .i64 c92.2.n]),(5,.box (qk.c p2)),(6,.box (qk.c x901.p)),(8,.row 1 3 (c92.2.free.map c_i64)),(7,.row 6 101 ((c92.2.l.set i1.toNat (⟨x924.p,x924.v,x924.isf,(⟨c92.1,x924.kids.e1⟩ : TS)⟩ : TNode)).map TNode.c))]) (zy:=9) rfl rfl (core_stoT (c:=TNode.c) (L:=c92.2.l) (x:=x924) (x':=(⟨x924.p,x924.v,x924.isf,(⟨c92.1,x924.kids.e1⟩ : TS)⟩ : TNode)) rfl hx924 rfl rfl rfl rfl rfl) rfl rfl (GX.done (WK.sr mixed (GX.m rfl (GX.m rfl (GX.done (WK.ret (QF.ret ?_))))))))))
      obtain rfl:=Option.some.inj hR
      exact RetQ.ret [0,1,2,7,8] [] (.inr rfl) rfl rfl rfl (subR_cons rfl (viewO_box (qz (viewP_own_len rfl (by simp)) (qz rfl (qz rfl (qz rfl qw))))) (subR_skip rfl (subR_skip rfl (subR_cons rfl rfl (subR_cons rfl rfl subR_nil))))) rfl .refl rfl
     simp only [hk23b,bb] at hR
     rcases Bool.eq_false_or_eq_true (decide (c78 = 1)) with hk26b | hk26b
     ·simp only [hk26b,bb] at hR
      have hk26:=of_decide_eq_true hk26b
      refine RD.pure (v':=.eptr 3 6 i1.toNat 5) rfl rfl rfl (core_idxAAe (c:=TNode.c) (L:=t0.l) (k:=1) rfl hk26 rfl (by omega) rfl) rfl (RD.pure (v':=.int .i64 x901.kids.e1) rfl rfl rfl (core_loaT (c:=TNode.c) (L:=t0.l) (x:=x901) rfl hx901 rfl) rfl (RD.q (.agg (qk.c p2)) (RD.m rfl ?_)))
      obtain ⟨c92,hc92,hR⟩:=zz hR; try dsimp only at hR
      refine RD.callx (r':=.int .i64 c92.1) (zx:=[(0,.box [.own 7 6 0 c92.2.l.length,.own 8 1 0 c92.2.free.length,.int .i64 c92.2.root,.int .i64 c92.2.n]),(5,.box (qk.c p2)),(6,.box (qk.c x901.p)),(8,.row 1 3 (c92.2.free.map c_i64)),(7,.row 6 101 (c92.2.l.map TNode.c))]) (zy:=9) [0,3,4] [] rfl rfl rfl rfl rfl rfl (ih t0 x901.kids.e1 p2 v3 _ hc92) (.inl rfl) rfl rfl rfl (RD.m rfl (RD.done rfl (WK.sr mixed (GX.m rfl (GX.q (.ptr 0 0) (GX.q (.ptr 0 0) (GX.q (.own 7 6 0 c92.2.l.length) (GX.m rfl (GX.m rfl (GX.m rfl ?_))))))))))
      obtain ⟨x927,hx927,hR⟩:=zz hR; try dsimp only at hR
      obtain ⟨hx9270,hx927j,hx927l,hx927⟩:=zk hx927
      refine GX.pure (v':=.eptr 7 6 i1.toNat 0) rfl rfl rfl (core_idxoT (c:=TNode.c) (L:=c92.2.l) (j:=i1.toNat) rfl hx927j hx927l (by exact Nat.le_refl _)) rfl (GX.pure (v':=.eptr 7 6 i1.toNat 4) rfl rfl rfl (core_fldT (c:=TNode.c) (L:=c92.2.l) rfl (by omega) rfl) rfl (GX.pure (v':=.eptr 7 6 i1.toNat 5) rfl rfl rfl (core_idxAAe (c:=TNode.c) (L:=c92.2.l) (k:=1) rfl hk26 rfl (by omega) rfl) rfl (GX.step0 (zx:=[(0,.box [.own 7 6 0 c92.2.l.length,.own 8 1 0 c92.2.free.length,.int .i64 c92.2.root,.int .i64 c92.2.n]),(5,.box (qk.c p2)),(6,.box (qk.c x901.p)),(8,.row 1 3 (c92.2.free.map c_i64)),(7,.row 6 101 ((c92.2.l.set i1.toNat (⟨x927.p,x927.v,x927.isf,(⟨x927.kids.e0,c92.1⟩ : TS)⟩ : TNode)).map TNode.c))]) (zy:=9) rfl rfl (core_stoT (c:=TNode.c) (L:=c92.2.l) (x:=x927) (x':=(⟨x927.p,x927.v,x927.isf,(⟨x927.kids.e0,c92.1⟩ : TS)⟩ : TNode)) rfl hx927 rfl rfl rfl rfl rfl) rfl rfl (GX.done (WK.sr mixed (GX.m rfl (GX.m rfl (GX.done (WK.ret (QF.ret ?_))))))))))
      obtain rfl:=Option.some.inj hR
      exact RetQ.ret [0,1,2,7,8] [] (.inr rfl) rfl rfl rfl (subR_cons rfl (viewO_box (qz (viewP_own_len rfl (by simp)) (qz rfl (qz rfl (qz rfl qw))))) (subR_skip rfl (subR_skip rfl (subR_cons rfl rfl (subR_cons rfl rfl subR_nil))))) rfl .refl rfl
     simp only [hk26b,bb] at hR
     cases hR
   ·rw [hb4]; try simp only [hb4,bb] at hR
    refine WK.condT rfl (WK.seq (WK.sr mixed (GX.m rfl (GX.q (.ptr 0 0) (GX.q (.ptr 0 0) (GX.q (.own 3 6 0 t0.l.length) (GX.m rfl (GX.pure (v':=.eptr 3 6 i1.toNat 0) rfl rfl rfl (core_idxoT (c:=TNode.c) (L:=t0.l) (j:=i1.toNat) rfl hx901j hx901l (by exact Nat.le_refl _)) rfl (GX.pure (v':=.eptr 3 6 i1.toNat 3) rfl rfl rfl (core_fldT (c:=TNode.c) (L:=t0.l) rfl (by omega) rfl) rfl (GX.pure (v':=.bool x901.isf) rfl rfl rfl (core_loaT (c:=TNode.c) (L:=t0.l) (x:=x901) rfl hx901 rfl) rfl (GX.q (.bool (!x901.isf)) (GX.done ?_))))))))))))
    rcases qq (x901.isf) with hb29 | hb29
    ·rw [hb29]; first | replace hR:=wz hb29 hR | (try simp only [hb29,bb] at hR)
     refine WK.condT rfl (WK.regx mixed (GX.m rfl (GX.q (.ptr 0 0) (GX.q (.ptr 0 3) (GX.q (.int .i64 t0.n) (GX.q (.int .i64 (IntKind.i64.wrap (t0.n + 1))) (GX.q (.ptr 0 0) (GX.q (.ptr 0 3) (GX.step0 (zx:=[(0,.box [.own 3 6 0 t0.l.length,.own 4 1 0 t0.free.length,.int .i64 t0.root,.int .i64 (IntKind.i64.wrap (t0.n + 1))]),(3,.row 6 101 (t0.l.map TNode.c)),(4,.row 1 3 (t0.free.map c_i64)),(5,.box (qk.c p2)),(6,.box (qk.c x901.p))]) (zy:=7) rfl rfl rfl rfl rfl (GX.done (WK.seq (WK.drawn mixed (RD.m rfl ?_)))))))))))))
     refine RD.q (.ptr 0 0) (RD.q (.ptr 0 0) (RD.q (.own 3 6 0 t0.l.length) (RD.m rfl (RD.m rfl (RD.q (.ptr 0 0) (RD.q (.ptr 0 0) (RD.q (.own 3 6 0 t0.l.length) (RD.m rfl (RD.m rfl (RD.pure (v':=.eptr 3 6 i1.toNat 0) rfl rfl rfl (core_idxoT (c:=TNode.c) (L:=t0.l) (j:=i1.toNat) rfl hx901j hx901l (by exact Nat.le_refl _)) rfl (RD.pure (v':=.eptr 3 6 i1.toNat 2) rfl rfl rfl (core_fldT (c:=TNode.c) (L:=t0.l) rfl (by omega) rfl) rfl (RD.step0 (zx:=[(0,.box [.own 3 6 0 t0.l.length,.own 4 1 0 t0.free.length,.int .i64 t0.root,.int .i64 (IntKind.i64.wrap (t0.n + 1))]),(3,.row 6 101 ((t0.l.set i1.toNat (⟨x901.p,v3,x901.isf,x901.kids⟩ : TNode)).map TNode.c)),(4,.row 1 3 (t0.free.map c_i64)),(5,.box (qk.c p2)),(6,.box (qk.c x901.p))]) (zy:=7) rfl rfl (core_stoT (c:=TNode.c) (L:=t0.l) (x:=x901) (x':=(⟨x901.p,v3,x901.isf,x901.kids⟩ : TNode)) rfl hx901 rfl rfl rfl rfl rfl) rfl rfl (RD.pure (v':=.eptr 3 6 i1.toNat 0) rfl rfl rfl (core_idxoT (c:=TNode.c) (L:=(t0.l.set i1.toNat (⟨x901.p,v3,x901.isf,x901.kids⟩ : TNode))) (j:=i1.toNat) rfl hx901j (by first | exact hx901l | exact set_lt hx901l) (by simp)) rfl ?_)))))))))))))
     refine RD.pure (v':=.eptr 3 6 i1.toNat 3) rfl rfl rfl (core_fldT (c:=TNode.c) (L:=(t0.l.set i1.toNat (⟨x901.p,v3,x901.isf,x901.kids⟩ : TNode))) rfl (by (simp only [List.length_set]; omega)) rfl) rfl (RD.step0 (zx:=[(0,.box [.own 3 6 0 t0.l.length,.own 4 1 0 t0.free.length,.int .i64 t0.root,.int .i64 (IntKind.i64.wrap (t0.n + 1))]),(3,.row 6 101 (((t0.l.set i1.toNat (⟨x901.p,v3,x901.isf,x901.kids⟩ : TNode)).set i1.toNat (⟨((⟨x901.p,v3,x901.isf,x901.kids⟩ : TNode).p),(⟨x901.p,v3,x901.isf,x901.kids⟩ : TNode).v,true,((⟨x901.p,v3,x901.isf,x901.kids⟩ : TNode).kids)⟩ : TNode)).map TNode.c)),(4,.row 1 3 (t0.free.map c_i64)),(5,.box (qk.c p2)),(6,.box (qk.c x901.p))]) (zy:=7) rfl rfl (core_stoT (c:=TNode.c) (L:=(t0.l.set i1.toNat (⟨x901.p,v3,x901.isf,x901.kids⟩ : TNode))) (x:=(⟨x901.p,v3,x901.isf,x901.kids⟩ : TNode)) (x':=(⟨((⟨x901.p,v3,x901.isf,x901.kids⟩ : TNode).p),(⟨x901.p,v3,x901.isf,x901.kids⟩ : TNode).v,true,((⟨x901.p,v3,x901.isf,x901.kids⟩ : TNode).kids)⟩ : TNode)) rfl (set_at hx901) rfl rfl rfl rfl rfl) rfl rfl (RD.done rfl (WK.sr mixed (GX.m rfl (GX.m rfl (GX.done (WK.ret (QF.ret ?_))))))))
     obtain rfl:=Option.some.inj hR
     exact RetQ.ret [0,1,2,3,4] [] (.inr rfl) rfl rfl rfl (subR_cons rfl (viewO_box (qz (viewP_own_len rfl (by simp)) (qz rfl (qz rfl (qz rfl qw))))) (subR_skip rfl (subR_skip rfl (subR_cons rfl rfl (subR_cons rfl rfl subR_nil))))) rfl .refl rfl
    ·rw [hb29]; first | replace hR:=wy hb29 hR | (try simp only [hb29,bb] at hR)
     refine WK.condF rfl (WK.skip (WK.seq (WK.drawn mixed (RD.m rfl (RD.q (.ptr 0 0) (RD.q (.ptr 0 0) (RD.q (.own 3 6 0 t0.l.length) (RD.m rfl (RD.m rfl (RD.q (.ptr 0 0) (RD.q (.ptr 0 0) (RD.q (.own 3 6 0 t0.l.length) (RD.m rfl (RD.m rfl ?_))))))))))))))
     refine RD.pure (v':=.eptr 3 6 i1.toNat 0) rfl rfl rfl (core_idxoT (c:=TNode.c) (L:=t0.l) (j:=i1.toNat) rfl hx901j hx901l (by exact Nat.le_refl _)) rfl (RD.pure (v':=.eptr 3 6 i1.toNat 2) rfl rfl rfl (core_fldT (c:=TNode.c) (L:=t0.l) rfl (by omega) rfl) rfl (RD.step0 (zx:=[(0,.box [.own 3 6 0 t0.l.length,.own 4 1 0 t0.free.length,.int .i64 t0.root,.int .i64 t0.n]),(3,.row 6 101 ((t0.l.set i1.toNat (⟨x901.p,v3,x901.isf,x901.kids⟩ : TNode)).map TNode.c)),(4,.row 1 3 (t0.free.map c_i64)),(5,.box (qk.c p2)),(6,.box (qk.c x901.p))]) (zy:=7) rfl rfl (core_stoT (c:=TNode.c) (L:=t0.l) (x:=x901) (x':=(⟨x901.p,v3,x901.isf,x901.kids⟩ : TNode)) rfl hx901 rfl rfl rfl rfl rfl) rfl rfl (RD.pure (v':=.eptr 3 6 i1.toNat 0) rfl rfl rfl (core_idxoT (c:=TNode.c) (L:=(t0.l.set i1.toNat (⟨x901.p,v3,x901.isf,x901.kids⟩ : TNode))) (j:=i1.toNat) rfl hx901j (by first | exact hx901l | exact set_lt hx901l) (by simp)) rfl (RD.pure (v':=.eptr 3 6 i1.toNat 3) rfl rfl rfl (core_fldT (c:=TNode.c) (L:=(t0.l.set i1.toNat (⟨x901.p,v3,x901.isf,x901.kids⟩ : TNode))) rfl (by (simp only [List.length_set]; omega)) rfl) rfl (RD.step0 (zx:=[(0,.box [.own 3 6 0 t0.l.length,.own 4 1 0 t0.free.length,.int .i64 t0.root,.int .i64 t0.n]),(3,.row 6 101 (((t0.l.set i1.toNat (⟨x901.p,v3,x901.isf,x901.kids⟩ : TNode)).set i1.toNat (⟨((⟨x901.p,v3,x901.isf,x901.kids⟩ : TNode).p),(⟨x901.p,v3,x901.isf,x901.kids⟩ : TNode).v,true,((⟨x901.p,v3,x901.isf,x901.kids⟩ : TNode).kids)⟩ : TNode)).map TNode.c)),(4,.row 1 3 (t0.free.map c_i64)),(5,.box (qk.c p2)),(6,.box (qk.c x901.p))]) (zy:=7) rfl rfl (core_stoT (c:=TNode.c) (L:=(t0.l.set i1.toNat (⟨x901.p,v3,x901.isf,x901.kids⟩ : TNode))) (x:=(⟨x901.p,v3,x901.isf,x901.kids⟩ : TNode)) (x':=(⟨((⟨x901.p,v3,x901.isf,x901.kids⟩ : TNode).p),(⟨x901.p,v3,x901.isf,x901.kids⟩ : TNode).v,true,((⟨x901.p,v3,x901.isf,x901.kids⟩ : TNode).kids)⟩ : TNode)) rfl (set_at hx901) rfl rfl rfl rfl rfl) rfl rfl (RD.done rfl (WK.sr mixed (GX.m rfl (GX.m rfl (GX.done (WK.ret (QF.ret ?_))))))))))))
     obtain rfl:=Option.some.inj hR
     exact RetQ.ret [0,1,2,3,4] [] (.inr rfl) rfl rfl rfl (subR_cons rfl (viewO_box (qz (viewP_own_len rfl (by simp)) (qz rfl (qz rfl (qz rfl qw))))) (subR_skip rfl (subR_skip rfl (subR_cons rfl rfl (subR_cons rfl rfl subR_nil))))) rfl .refl rfl
  ·rw [hb1]; first | replace hR:=wy hb1 hR | (try simp only [hb1,bb] at hR)
   refine WK.condT rfl (WK.sr mixed (GX.m rfl (GX.q (.ptr 0 0) (GX.q (.ptr 0 3) (GX.q (.int .i64 t0.n) (GX.q (.int .i64 (IntKind.i64.wrap (t0.n + 1))) (GX.q (.ptr 0 0) (GX.q (.ptr 0 3) (GX.step0 (zx:=[(0,.box [.own 3 6 0 t0.l.length,.own 4 1 0 t0.free.length,.int .i64 t0.root,.int .i64 (IntKind.i64.wrap (t0.n + 1))]),(3,.row 6 101 (t0.l.map TNode.c)),(4,.row 1 3 (t0.free.map c_i64)),(5,.box (qk.c p2))]) (zy:=6) rfl rfl rfl rfl rfl (GX.done (WK.sr mixed (GX.m rfl (GX.q (.agg (qk.c p2)) ?_)))))))))))))
   refine GX.m rfl ?_
   generalize hc26:F59 p2 v3 = c26 at hR
   try dsimp only at hR
   refine GX.callp (r:=.agg [.int .u32 c26.p.A,.int .i64 c26.p.N,.int .i64 c26.v,.bool c26.isf,.int .i64 c26.kids.e0,.int .i64 c26.kids.e1]) rfl rfl rfl (f59_ok p2 v3 _ hc26) rfl rfl ?_
   obtain ⟨c27,hc27,hR⟩:=zz hR; try dsimp only at hR
   refine GX.callx (r':=.int .i64 c27.1) (zx:=[(0,.box [.own 6 6 0 c27.2.l.length,.own 7 1 0 c27.2.free.length,.int .i64 c27.2.root,.int .i64 c27.2.n]),(5,.box (qk.c p2)),(7,.row 1 3 (c27.2.free.map c_i64)),(6,.row 6 101 (c27.2.l.map TNode.c))]) (zy:=8) [0,3,4] [] rfl rfl rfl rfl rfl rfl (f58_ok (⟨t0.l,t0.free,t0.root,IntKind.i64.wrap (t0.n + 1)⟩ : TTrie) c26 _ hc27) (.inl rfl) rfl rfl rfl (GX.m rfl (GX.done (WK.ret ?_)))
   obtain rfl:=Option.some.inj hR
   exact RetQ.ret [0,1,2,6,7] [] (.inr rfl) rfl rfl rfl rfl rfl .refl rfl
theorem f29_ok (t0:TTrie) (p1:qk) (v2:Int) (R:Int × TTrie) (hR:F29 t0 p1 v2 = some R):FnOk Tryz.prog 29 [.ptr 0 0,.agg (qk.c p1),.int .i64 v2] [(0,.box [.own 1 6 0 t0.l.length,.own 2 1 0 t0.free.length,.int .i64 t0.root,.int .i64 t0.n]),(1,.row 6 101 (t0.l.map TNode.c)),(2,.row 1 3 (t0.free.map c_i64))] 3 (.int .i64 R.1) [(0,.box [.own 3 6 0 R.2.l.length,.own 4 1 0 R.2.free.length,.int .i64 R.2.root,.int .i64 R.2.n]),(3,.row 6 101 (R.2.l.map TNode.c)),(4,.row 1 3 (R.2.free.map c_i64))] 5:=by
 refine FnOk.wk i29 rfl rfl ?_
 unfold F29 at hR
 try dsimp only at hR
 change WK _ _ _ [ac29] _ ⟨[(0,.ptr 0 0),(1,.agg (qk.c p1)),(2,.int .i64 v2)],[(0,.box [.own 1 6 0 t0.l.length,.own 2 1 0 t0.free.length,.int .i64 t0.root,.int .i64 t0.n]),(1,.row 6 101 (t0.l.map TNode.c)),(2,.row 1 3 (t0.free.map c_i64))],3⟩
 unfold ac29
 refine WK.mvB (id:=0) (j:=0) (zx:=[(0,.box [.own 3 6 0 t0.l.length,.own 2 1 0 t0.free.length,.int .i64 t0.root,.int .i64 t0.n]),(2,.row 1 3 (t0.free.map c_i64)),(3,.row 6 101 (t0.l.map TNode.c))]) rfl rfl rfl (by simp) rfl (WK.mvB (id:=0) (j:=1) (zx:=[(0,.box [.own 3 6 0 t0.l.length,.own 4 1 0 t0.free.length,.int .i64 t0.root,.int .i64 t0.n]),(3,.row 6 101 (t0.l.map TNode.c)),(4,.row 1 3 (t0.free.map c_i64))]) rfl rfl rfl (by simp) rfl (WK.sr mixed (GX.step (v':=.ptr 5 0) (zx:=[(0,.box [.own 3 6 0 t0.l.length,.own 4 1 0 t0.free.length,.int .i64 t0.root,.int .i64 t0.n]),(3,.row 6 101 (t0.l.map TNode.c)),(4,.row 1 3 (t0.free.map c_i64)),(5,.box (qk.c p1))]) (zy:=6) rfl rfl rfl rfl rfl rfl rfl (GX.m rfl (GX.done (WK.seq (WK.sr mixed (GX.m rfl (GX.q (.bool false) (GX.m rfl (GX.q (.agg (qk.c p1)) ?_)))))))))))
 generalize hc13:F28 p1 = c13 at hR
 try dsimp only at hR
 refine GX.callp (r:=.bool c13) rfl rfl rfl (f28_ok p1 _ hc13) rfl rfl (GX.q (.bool (!c13)) (GX.q (.bool (!c13)) (GX.done ?_)))
 rcases qq (c13) with hb1 | hb1
 ·rw [hb1]; first | replace hR:=wz hb1 hR | (try simp only [hb1,bb] at hR)
  refine WK.condT rfl (WK.sr mixed (GX.m rfl (GX.done (WK.ret ?_))))
  obtain rfl:=Option.some.inj hR
  exact RetQ.ret [0,1,2,3,4] [] (.inr rfl) rfl rfl rfl rfl rfl .refl rfl
 ·rw [hb1]; first | replace hR:=wy hb1 hR | (try simp only [hb1,bb] at hR)
  refine WK.condF rfl (WK.skip (WK.seq (WK.sr mixed (GX.m rfl (GX.q (.agg (qk.c p1)) ?_)))))
  obtain ⟨c19,hc19,hR⟩:=zz hR; try dsimp only at hR
  refine GX.callx (r':=.tup [.int .i64 c19.1,.bool c19.2]) (zx:=[(0,.box [.own 3 6 0 t0.l.length,.own 4 1 0 t0.free.length,.int .i64 t0.root,.int .i64 t0.n]),(3,.row 6 101 (t0.l.map TNode.c)),(4,.row 1 3 (t0.free.map c_i64)),(5,.box (qk.c p1))]) (zy:=6) [0,3,4] [] rfl rfl rfl rfl rfl rfl (f31_ok t0 p1 _ hc19) (.inl rfl) rfl rfl rfl (GX.m rfl (GX.q (.int .i64 c19.1) (GX.q (.bool c19.2) (GX.m rfl (GX.m rfl (GX.done (WK.sr mixed (GX.m rfl (GX.q (.bool (!c19.2)) (GX.m rfl ?_))))))))))
  rcases qq (c19.2) with hb3 | hb3
  ·rw [hb3]; first | replace hR:=wz hb3 hR | (try simp only [hb3,bb] at hR)
   refine GX.m rfl (GX.q (.ptr 0 0) (GX.q (.ptr 0 3) (GX.q (.int .i64 t0.n) (GX.q (.bool (decide (5000 ≤ t0.n))) (GX.q (.bool (decide (5000 ≤ t0.n))) (GX.done ?_))))))
   rcases qq (decide (5000 ≤ t0.n)) with hb4 | hb4
   ·rw [hb4]; first | replace hR:=wz hb4 hR | (try simp only [hb4,bb] at hR)
    refine WK.condF rfl (WK.skip (WK.seq (WK.drawn mixed (RD.m rfl (RD.m rfl (RD.m rfl (RD.q (.ptr 0 0) (RD.q (.ptr 0 2) (RD.q (.int .i64 t0.root) (RD.q (.agg (qk.c p1)) (RD.m rfl ?_)))))))))))
    obtain ⟨c39,hc39,hR⟩:=zz hR; try dsimp only at hR
    refine RD.callx (r':=.int .i64 c39.1) (zx:=[(0,.box [.own 6 6 0 c39.2.l.length,.own 7 1 0 c39.2.free.length,.int .i64 c39.2.root,.int .i64 c39.2.n]),(5,.box (qk.c p1)),(7,.row 1 3 (c39.2.free.map c_i64)),(6,.row 6 101 (c39.2.l.map TNode.c))]) (zy:=8) [0,3,4] [] rfl rfl rfl rfl rfl rfl (f45_ok 100 t0 t0.root p1 v2 _ hc39) (.inl rfl) rfl rfl rfl (RD.q (.ptr 0 0) (RD.q (.ptr 0 2) (RD.step0 (zx:=[(0,.box [.own 6 6 0 c39.2.l.length,.own 7 1 0 c39.2.free.length,.int .i64 c39.1,.int .i64 c39.2.n]),(5,.box (qk.c p1)),(7,.row 1 3 (c39.2.free.map c_i64)),(6,.row 6 101 (c39.2.l.map TNode.c))]) (zy:=8) rfl rfl rfl rfl rfl (RD.done rfl (WK.sr mixed (GX.m rfl (GX.done (WK.ret ?_))))))))
    obtain rfl:=Option.some.inj hR
    exact RetQ.ret [0,1,2,6,7] [] (.inr rfl) rfl rfl rfl rfl rfl .refl rfl
   ·rw [hb4]; first | replace hR:=wy hb4 hR | (try simp only [hb4,bb] at hR)
    refine WK.condT rfl (WK.sr mixed (GX.m rfl (GX.done (WK.ret ?_))))
    obtain rfl:=Option.some.inj hR
    exact RetQ.ret [0,1,2,3,4] [] (.inr rfl) rfl rfl rfl rfl rfl .refl rfl
  ·rw [hb3]; first | replace hR:=wy hb3 hR | (try simp only [hb3,bb] at hR)
   iterate 5 refine GX.skip rfl rfl ?_
   refine GX.q (.bool false) (GX.done (WK.condF rfl (WK.skip (WK.seq (WK.drawn mixed (RD.m rfl (RD.m rfl (RD.m rfl (RD.q (.ptr 0 0) (RD.q (.ptr 0 2) (RD.q (.int .i64 t0.root) (RD.q (.agg (qk.c p1)) (RD.m rfl ?_)))))))))))))
   obtain ⟨c39,hc39,hR⟩:=zz hR; try dsimp only at hR
   refine RD.callx (r':=.int .i64 c39.1) (zx:=[(0,.box [.own 6 6 0 c39.2.l.length,.own 7 1 0 c39.2.free.length,.int .i64 c39.2.root,.int .i64 c39.2.n]),(5,.box (qk.c p1)),(7,.row 1 3 (c39.2.free.map c_i64)),(6,.row 6 101 (c39.2.l.map TNode.c))]) (zy:=8) [0,3,4] [] rfl rfl rfl rfl rfl rfl (f45_ok 100 t0 t0.root p1 v2 _ hc39) (.inl rfl) rfl rfl rfl (RD.q (.ptr 0 0) (RD.q (.ptr 0 2) (RD.step0 (zx:=[(0,.box [.own 6 6 0 c39.2.l.length,.own 7 1 0 c39.2.free.length,.int .i64 c39.1,.int .i64 c39.2.n]),(5,.box (qk.c p1)),(7,.row 1 3 (c39.2.free.map c_i64)),(6,.row 6 101 (c39.2.l.map TNode.c))]) (zy:=8) rfl rfl rfl rfl rfl (RD.done rfl (WK.sr mixed (GX.m rfl (GX.done (WK.ret ?_))))))))
   obtain rfl:=Option.some.inj hR
   exact RetQ.ret [0,1,2,6,7] [] (.inr rfl) rfl rfl rfl rfl rfl .refl rfl
theorem f46_ok (l0:List THop) (R:ByteArray) (hR:F46 l0 = some R):FnOk Tryz.prog 46 [.ro 2 (l0.map THop.c)] [] 0 (.str R) [] 0:=by
 refine FnOk.wk i46 rfl rfl ?_
 unfold F46 at hR
 try dsimp only at hR
 change WK _ _ _ [ac46] _ ⟨[(0,.ro 2 (l0.map THop.c))],[],0⟩
 unfold ac46
 refine WK.sr mixed (GX.m rfl (GX.done (WK.sr mixed (GX.m rfl (GX.done (WK.seq (WK.sr mixed (GX.m rfl (GX.pure (v':=.int .i64 (l0.length:Int)) rfl rfl rfl rfl (zj _ _) (GX.m rfl (GX.done (WK.adopt (t:=3) (sz:=1) (ty:=9) (zx:=[(0,.row 1 9 (([]:List ByteArray).map c_str))]) rfl (by decide) (by simp) rfl ?_))))))))))))
 refine WK.len (t:=0) rfl (by simp) (fun ge11=>?_)
 rw [List.length_map] at ge11
 generalize gi11:F46l1 ([]:List ByteArray) l0 = gh11 at hR
 refine WK.forK (fun k s=>∃ (i8:Nat) (out3:List ByteArray),i8 ≤ l0.length ∧ k = l0.length - i8 ∧ F46l1 out3 (l0.drop i8) = gh11 ∧ s = ⟨[(3,.own 0 1 0 out3.length),(6,.ro 2 (l0.map THop.c)),(7,.int .i64 (l0.length:Int)),(8,.int .i64 (i8:Int))],[(0,.row 1 9 (out3.map c_str))],1⟩) l0.length (by refine ⟨_,?_,0,([]:List ByteArray),(by omega),rfl,gi11,rfl⟩; exact Conv.keep [0] [] [3,6,7,8] rfl rfl (qx rfl rfl (qx rfl rfl (qx rfl rfl (qx rfl rfl qy)))) rfl rfl) ?_
 rintro _ _ ⟨i8,out3,gj11,rfl,gg11,rfl⟩ gb11 gd11 gk11 ga11 gc11 gf11
 refine WK.sr mixed (GX.q (.bool (decide ((i8:Int) < (l0.length:Int)))) (GX.done (WK.seq ?_)))
 rcases qq (decide ((i8:Int) < (l0.length:Int))) with hb12 | hb12
 ·rw [hb12]
  rw [drop_end hb12,F46l1] at gg11
  refine WK.condF rfl (WK.exit ?_)
  refine QF.exit (gc11 _ ?_)
  subst gg11
  replace hR:=obind_s hR; try dsimp only at hR
  refine WK.sr mixed (GX.m rfl ?_)
  obtain ⟨c26,hc26,hR⟩:=zz hR; try dsimp only at hR
  try dsimp only at hR
  refine GX.callbp (r:=.str c26) [0] rfl rfl rfl (qz (view_rowT rfl rfl) (qz rfl qw)) (f64_ok out3 (bstr [44]) _ hc26) rfl rfl (GX.m rfl (GX.done (WK.ret ?_)))
  obtain rfl:=Option.some.inj hR
  exact RetQ.fr [] (.inr rfl) rfl rfl rfl rfl
 ·rw [hb12]
  obtain ⟨x8,hx11,hd11,hlt11⟩:=drop_more hb12
  rw [hd11,F46l1] at gg11
  refine WK.condT rfl (WK.skip (WK.seq ?_))
  refine WK.blockK (fun _ hK13=>?_)
  refine WK.sr mixed (GX.idxT (c:=THop.c) (x:=x8) rfl rfl rfl (Int.natCast_nonneg _) hx11 (GX.q (.agg (THop.c x8)) (GX.step (v':=.ptr 1 0) (zx:=[(0,.row 1 9 (out3.map c_str)),(1,.box [.int .i64 0,.int .u32 0])]) (zy:=2) rfl rfl rfl rfl rfl rfl rfl (GX.step0 (zx:=[(0,.row 1 9 (out3.map c_str)),(1,.box (THop.c x8))]) (zy:=2) rfl rfl rfl rfl rfl (GX.done (WK.drawn mixed (RD.m rfl (RD.q (.ptr 1 0) (RD.q (.int .i64 x8.Iface) ?_)))))))))
  rcases zw gg11 with ⟨_,gg11⟩ | ⟨c15,hc15,gg11⟩
  ·subst gg11
   first | replace hR:=zq hR | replace hR:=oexc_n hR
   cases hR
  try dsimp only at gg11
  try dsimp only at gg11
  refine RD.callp (r:=.str c15) rfl rfl rfl (f62_ok x8.Iface _ hc15) rfl rfl ?_
  rcases qq (decide (c15.size + (bstr [32]).size ≤ 9223372036854775807)) with hg14 | hg14
  ·replace gg11:=wz hg14 gg11
   subst gg11
   first | replace hR:=zq hR | replace hR:=oexc_n hR
   cases hR
  replace gg11:=wy hg14 gg11; try dsimp only at gg11
  have hg14_:=of_decide_eq_true hg14
  refine RD.pure (v':=.str (c15 ++ (bstr [32]))) rfl rfl rfl (core_addS (by omega)) rfl (RD.q (.ptr 1 1) (RD.q (.int .u32 x8.Gate) (RD.q (.int .u64 (IntKind.u64.wrap x8.Gate)) ?_)))
  rcases zw gg11 with ⟨_,gg11⟩ | ⟨c20,hc20,gg11⟩
  ·subst gg11
   first | replace hR:=zq hR | replace hR:=oexc_n hR
   cases hR
  try dsimp only at gg11
  try dsimp only at gg11
  refine RD.callp (r:=.str c20) rfl rfl rfl (f63_ok (IntKind.u64.wrap x8.Gate) 10 _ hc20) rfl rfl ?_
  rcases qq (decide ((c15 ++ (bstr [32])).size + c20.size ≤ 9223372036854775807)) with hg15 | hg15
  ·replace gg11:=wz hg15 gg11
   subst gg11
   first | replace hR:=zq hR | replace hR:=oexc_n hR
   cases hR
  replace gg11:=wy hg15 gg11; try dsimp only at gg11
  have hg15_:=of_decide_eq_true hg15
  refine RD.pure (v':=.str ((c15 ++ (bstr [32])) ++ c20)) rfl rfl rfl (core_addS (by omega)) rfl (RD.step (v':=.own 2 1 0 (([((c15 ++ (bstr [32])) ++ c20)]:List ByteArray)).length) (zx:=[(0,.row 1 9 (out3.map c_str)),(1,.box (THop.c x8)),(2,.row 1 9 (([((c15 ++ (bstr [32])) ++ c20)]:List ByteArray).map c_str))]) (zy:=3) rfl rfl rfl rfl rfl rfl rfl ?_)
  rcases qq (decide (out3.length < 1099511627776)) with hg16 | hg16
  ·replace gg11:=wz hg16 gg11
   subst gg11
   first | replace hR:=zq hR | replace hR:=oexc_n hR
   cases hR
  replace gg11:=wy hg16 gg11; try dsimp only at gg11
  have hg16_:=of_decide_eq_true hg16
  refine RD.appT (c:=c_str) (L:=out3) (X:=([((c15 ++ (bstr [32])) ++ c20)]:List ByteArray)) (zx:=[(1,.box (THop.c x8)),(2,.row 1 9 (([((c15 ++ (bstr [32])) ++ c20)]:List ByteArray).map c_str)),(3,.row 1 9 ((out3 ++ ([((c15 ++ (bstr [32])) ++ c20)]:List ByteArray)).map c_str))]) (zy:=4) rfl rfl rfl rfl (elems_own rfl) (by ((try simp only [List.length_append,List.length_cons,List.length_nil,List.length_map,decide_eq_true_eq,decide_eq_false_iff_not] at *) <;> omega)) (by ((try simp only [List.length_append,List.length_cons,List.length_nil,List.length_map,decide_eq_true_eq,decide_eq_false_iff_not] at *) <;> omega)) rfl rfl rfl rfl (RD.m rfl (RD.done rfl ?_))
  refine WK.nil (QF.normal (hK13 _ ?_))
  refine WK.regx mixed (GX.pure (v':=.int .i64 ((i8 + 1:Nat):Int)) rfl rfl rfl rfl (congrArg (PVal.int .i64) (wrap_up hlt11 ge11)) (GX.m rfl (GX.done ?_)))
  refine WK.nil (QF.normal ?_)
  refine ga11 _ (l0.length - (i8 + 1)) _ (by omega) ?_ ⟨i8 + 1,(out3 ++ ([((c15 ++ (bstr [32])) ++ c20)]:List ByteArray)),(by omega),rfl,gg11,rfl⟩
  exact Conv.keep [3] [] [3,6,7,8] rfl rfl (qx rfl rfl (qx rfl rfl (qx rfl rfl (qx rfl rfl qy)))) rfl rfl
theorem f47_ok (s0:List TGroup) (gf1:FuncId) (gf1f gf1c:List PVal) (hf1:TGroup → Bool) (gf1k:PVal.closed.go gf1f = true ∧ PVal.closed.go gf1c = true) (gf1o : ∀ (y0:TGroup) (R:Bool),hf1 y0 = R → FnOk Tryz.prog gf1 (gf1f ++ [.agg (TGroup.c y0)] ++ gf1c) [] 0 (.bool R) [] 0) (R:Int) (hR:F47 s0 hf1 = some R):FnOk Tryz.prog 47 [.ro 3 (s0.map TGroup.c),.fn gf1 gf1f gf1c] [] 0 (.int .i64 R) [] 0:=by
 refine FnOk.wk i47 rfl rfl ?_
 unfold F47 at hR
 try dsimp only at hR
 change WK _ _ _ [ac47] _ ⟨[(0,.ro 3 (s0.map TGroup.c)),(1,.fn gf1 gf1f gf1c)],[],0⟩
 unfold ac47
 refine WK.sr mixed (GX.m rfl (GX.done (WK.seq (WK.sr mixed (GX.m rfl (GX.pure (v':=.int .i64 (s0.length:Int)) rfl rfl rfl rfl (zj _ _) (GX.m rfl (GX.done ?_))))))))
 refine WK.len (t:=0) rfl (by simp) (fun ge1=>?_)
 rw [List.length_map] at ge1
 generalize gi1:F47l1 hf1 0 s0 = gh1 at hR
 refine WK.forK (fun k s=>∃ (i8:Nat),i8 ≤ s0.length ∧ k = s0.length - i8 ∧ F47l1 hf1 i8 (s0.drop i8) = gh1 ∧ s = ⟨[(0,.ro 3 (s0.map TGroup.c)),(1,.fn gf1 gf1f gf1c),(7,.int .i64 (s0.length:Int)),(8,.int .i64 (i8:Int))],[],0⟩) s0.length (by refine ⟨_,?_,0,(by omega),rfl,gi1,rfl⟩; exact Conv.keep [] [] [0,1,7,8] rfl rfl (qx rfl rfl (qx rfl (viewP_fnc gf1k) (qx rfl rfl (qx rfl rfl qy)))) rfl rfl) ?_
 rintro _ _ ⟨i8,gj1,rfl,gg1,rfl⟩ gb1 gd1 gk1 ga1 gc1 hQ_1
 refine WK.sr mixed (GX.q (.bool (decide ((i8:Int) < (s0.length:Int)))) (GX.done (WK.seq ?_)))
 rcases qq (decide ((i8:Int) < (s0.length:Int))) with hb2 | hb2
 ·rw [hb2]
  rw [drop_end hb2,F47l1] at gg1
  refine WK.condF rfl (WK.exit ?_)
  refine QF.exit (gc1 _ ?_)
  subst gg1
  replace hR:=oexc_k hR; try dsimp only at hR
  refine WK.sr mixed (GX.m rfl (GX.done (WK.ret ?_)))
  obtain rfl:=Option.some.inj hR
  exact RetQ.fr [] (.inr rfl) rfl rfl rfl rfl
 ·rw [hb2]
  obtain ⟨x8,hx1,hd1,hlt1⟩:=drop_more hb2
  rw [hd1,F47l1] at gg1
  refine WK.condT rfl (WK.skip (WK.seq ?_))
  refine WK.blockK (fun _ hK3=>?_)
  refine WK.sr mixed (GX.m rfl (GX.m rfl (GX.done (WK.sr mixed (GX.m rfl (GX.m rfl (GX.m rfl (GX.idxT (c:=TGroup.c) (x:=x8) rfl rfl rfl (Int.natCast_nonneg _) hx1 (GX.q (.agg (TGroup.c x8)) ?_)))))))))
  generalize hc16:hf1 x8 = c16 at gg1
  try dsimp only at gg1
  refine GX.callvp (r:=.bool c16) rfl rfl rfl (gf1o x8 _ hc16) (closed3 gf1k.1 rfl gf1k.2) rfl (GX.done ?_)
  rcases qq (c16) with hb4 | hb4
  ·rw [hb4]; try simp only [hb4,bb] at gg1
   refine WK.condF rfl (WK.skip ?_)
   refine WK.nil (QF.normal (hK3 _ ?_))
   refine WK.regx mixed (GX.pure (v':=.int .i64 ((i8 + 1:Nat):Int)) rfl rfl rfl rfl (congrArg (PVal.int .i64) (wrap_up hlt1 ge1)) (GX.m rfl (GX.done ?_)))
   refine WK.nil (QF.normal ?_)
   refine ga1 _ (s0.length - (i8 + 1)) _ (by omega) ?_ ⟨i8 + 1,(by omega),rfl,gg1,rfl⟩
   exact Conv.keep [] [] [0,1,7,8] rfl rfl (qx rfl rfl (qx rfl (viewP_fnc gf1k) (qx rfl rfl (qx rfl rfl qy)))) rfl rfl
  ·rw [hb4]; try simp only [hb4,bb] at gg1
   refine WK.condT rfl (WK.sr mixed (GX.m rfl (GX.m rfl (GX.done (WK.ret (QF.ret ?_))))))
   refine QF.ret (hQ_1 _ _ ?_)
   subst gg1
   first | replace hR:=oexc_e hR | replace hR:=oexc_k hR | replace hR:=obind_s hR
   try dsimp only at hR
   obtain rfl:=Option.some.inj hR
   exact RetQ.fr [] (.inr rfl) rfl rfl rfl rfl
theorem f48_ok (g0:TGroup) (R:Bool) (hR:F48 g0 = R):FnOk Tryz.prog 48 [.agg (TGroup.c g0)] [] 0 (.bool R) [] 0:=by
 refine FnOk.wk i48 rfl rfl ?_
 unfold F48 at hR
 change WK _ _ _ [ac48] _ ⟨[(0,.agg (TGroup.c g0))],[],0⟩
 unfold ac48
 refine WK.sr mixed (GX.step (v':=.ptr 0 0) (zx:=[(0,.box (TGroup.c g0))]) (zy:=1) rfl rfl rfl rfl rfl rfl rfl (GX.m rfl (GX.done (WK.sr mixed (GX.q (.ptr 0 2) (GX.q (.int .i64 g0.many) (GX.q (.bool (decide (g0.many = 0))) (GX.m rfl (GX.done (WK.ret ?_))))))))))
 subst hR
 exact RetQ.fr [] (.inr rfl) rfl rfl rfl rfl
theorem f30_ok (f0:TFib) (l1:List THop) (R:Int × TFib) (hR:F30 f0 l1 = some R):FnOk Tryz.prog 30 [.ptr 0 0,.ro 2 (l1.map THop.c)] [(0,.box [.ptr 1 0,.own 4 3 0 f0.sets.length,.mapr 5]),(1,.box [.own 2 6 0 f0.t.l.length,.own 3 1 0 f0.t.free.length,.int .i64 f0.t.root,.int .i64 f0.t.n]),(2,.row 6 101 (f0.t.l.map TNode.c)),(3,.row 1 3 (f0.t.free.map c_i64)),(4,.row 3 71 (f0.sets.map TGroup.c)),(5,.mq f0.atf.1 (f0.atf.2.map (encE (fun y=>.int .i64 y))))] 6 (.int .i64 R.1) [(0,.box [.ptr 1 0,.own 8 3 0 R.2.sets.length,.mapr 5]),(1,.box [.own 6 6 0 R.2.t.l.length,.own 7 1 0 R.2.t.free.length,.int .i64 R.2.t.root,.int .i64 R.2.t.n]),(5,.mq R.2.atf.1 (R.2.atf.2.map (encE (fun y=>.int .i64 y)))),(6,.row 6 101 (R.2.t.l.map TNode.c)),(7,.row 1 3 (R.2.t.free.map c_i64)),(8,.row 3 71 (R.2.sets.map TGroup.c))] 9:=by
 refine FnOk.wk i30 rfl rfl ?_
 unfold F30 at hR
 try dsimp only at hR
 change WK _ _ _ [ac30] _ ⟨[(0,.ptr 0 0),(1,.ro 2 (l1.map THop.c))],[(0,.box [.ptr 1 0,.own 4 3 0 f0.sets.length,.mapr 5]),(1,.box [.own 2 6 0 f0.t.l.length,.own 3 1 0 f0.t.free.length,.int .i64 f0.t.root,.int .i64 f0.t.n]),(2,.row 6 101 (f0.t.l.map TNode.c)),(3,.row 1 3 (f0.t.free.map c_i64)),(4,.row 3 71 (f0.sets.map TGroup.c)),(5,.mq f0.atf.1 (f0.atf.2.map (encE (fun y=>.int .i64 y))))],6⟩
 unfold ac30
 refine WK.mvB (id:=1) (j:=0) (zx:=[(0,.box [.ptr 1 0,.own 4 3 0 f0.sets.length,.mapr 5]),(1,.box [.own 6 6 0 f0.t.l.length,.own 3 1 0 f0.t.free.length,.int .i64 f0.t.root,.int .i64 f0.t.n]),(3,.row 1 3 (f0.t.free.map c_i64)),(4,.row 3 71 (f0.sets.map TGroup.c)),(5,.mq f0.atf.1 (f0.atf.2.map (encE (fun y=>.int .i64 y)))),(6,.row 6 101 (f0.t.l.map TNode.c))]) rfl rfl rfl (by simp) rfl (WK.mvB (id:=1) (j:=1) (zx:=[(0,.box [.ptr 1 0,.own 4 3 0 f0.sets.length,.mapr 5]),(1,.box [.own 6 6 0 f0.t.l.length,.own 7 1 0 f0.t.free.length,.int .i64 f0.t.root,.int .i64 f0.t.n]),(4,.row 3 71 (f0.sets.map TGroup.c)),(5,.mq f0.atf.1 (f0.atf.2.map (encE (fun y=>.int .i64 y)))),(6,.row 6 101 (f0.t.l.map TNode.c)),(7,.row 1 3 (f0.t.free.map c_i64))]) rfl rfl rfl (by simp) rfl (WK.mvB (id:=0) (j:=1) (zx:=[(0,.box [.ptr 1 0,.own 8 3 0 f0.sets.length,.mapr 5]),(1,.box [.own 6 6 0 f0.t.l.length,.own 7 1 0 f0.t.free.length,.int .i64 f0.t.root,.int .i64 f0.t.n]),(5,.mq f0.atf.1 (f0.atf.2.map (encE (fun y=>.int .i64 y)))),(6,.row 6 101 (f0.t.l.map TNode.c)),(7,.row 1 3 (f0.t.free.map c_i64)),(8,.row 3 71 (f0.sets.map TGroup.c))]) rfl rfl rfl (by simp) rfl (WK.sr mixed (GX.m rfl (GX.done (WK.sr mixed (GX.m rfl ?_)))))))
 obtain ⟨c9,hc9,hR⟩:=zz hR; try dsimp only at hR
 try dsimp only at hR
 refine GX.callp (r:=.str c9) rfl rfl rfl (f46_ok l1 _ hc9) rfl rfl (GX.m rfl (GX.done (WK.sr mixed (GX.m rfl (GX.q (.ptr 0 0) (GX.q (.ptr 0 2) (GX.q (.mapr 5) (GX.m rfl (GX.pure (v':=.tup [.int .i64 ((qlook f0.atf c9).getD 0),.bool ((qlook f0.atf c9).isSome)]) rfl rfl rfl (core_lookQ2 (e:=(fun y=>.int .i64 y)) (z0:=0) rfl rfl) rfl (GX.m rfl (GX.q (.int .i64 ((qlook f0.atf c9).getD 0)) (GX.q (.bool ((qlook f0.atf c9).isSome)) (GX.m rfl (GX.m rfl ?_))))))))))))))
 refine GX.done (WK.seq (WK.sr mixed (GX.m rfl (GX.q (.bool (!((qlook f0.atf c9).isSome))) (GX.done ?_)))))
 rcases qq ((qlook f0.atf c9).isSome) with hb1 | hb1
 ·rw [hb1]; try simp only [hb1,bb] at hR
  refine WK.condT rfl (WK.sr mixed (GX.m rfl (GX.q (.ptr 0 0) (GX.q (.ptr 0 1) (GX.q (.own 8 3 0 f0.sets.length) ?_)))))
  obtain ⟨c25,hc25,hR⟩:=zz hR; try dsimp only at hR
  try dsimp only at hR
  refine GX.callbp (r:=.int .i64 c25) [8] rfl rfl rfl (qz (view_rowT rfl rfl) (qz rfl qw)) (f47_ok f0.sets 48 [] [] (fun y0=>F48 y0) ⟨rfl,rfl⟩ (fun y0 _ hr=>f48_ok y0 _ hr) _ hc25) rfl rfl (GX.m rfl (GX.done (WK.seq (WK.sr mixed (GX.m rfl (GX.q (.bool (decide (c25 < 0))) (GX.done ?_)))))))
  rcases qq (decide (c25 < 0)) with hb2 | hb2
  ·rw [hb2]; first | replace hR:=wz hb2 hR | (try simp only [hb2,bb] at hR)
   refine WK.condF rfl (WK.skip (WK.drawn mixed (RD.m rfl (RD.q (.ptr 0 0) (RD.q (.ptr 0 1) (RD.q (.own 8 3 0 f0.sets.length) (RD.m rfl (RD.m rfl (RD.q (.ptr 0 0) (RD.q (.ptr 0 2) (RD.q (.mapr 5) (RD.m rfl (RD.m rfl (RD.m rfl ?_))))))))))))))
   refine RD.q (.agg [.ro 2 (l1.map THop.c),.str c9,.int .i64 0]) (RD.m rfl ?_)
   obtain ⟨x902,hx902,hR⟩:=zz hR; try dsimp only at hR
   obtain ⟨hx9020,hx902j,hx902l,hx902⟩:=zk hx902
   refine RD.pure (v':=.eptr 8 3 c25.toNat 0) rfl rfl rfl (core_idxoT (c:=TGroup.c) (L:=f0.sets) (j:=c25.toNat) rfl hx902j hx902l (by exact Nat.le_refl _)) rfl (RD.step0 (zx:=[(0,.box [.ptr 1 0,.own 8 3 0 f0.sets.length,.mapr 5]),(1,.box [.own 6 6 0 f0.t.l.length,.own 7 1 0 f0.t.free.length,.int .i64 f0.t.root,.int .i64 f0.t.n]),(5,.mq f0.atf.1 (f0.atf.2.map (encE (fun y=>.int .i64 y)))),(6,.row 6 101 (f0.t.l.map TNode.c)),(7,.row 1 3 (f0.t.free.map c_i64)),(8,.row 3 71 ((f0.sets.set c25.toNat (⟨l1,c9,0⟩ : TGroup)).map TGroup.c))]) (zy:=9) rfl rfl (core_stoT (c:=TGroup.c) (L:=f0.sets) (x:=x902) (x':=(⟨l1,c9,0⟩ : TGroup)) rfl hx902 rfl rfl rfl rfl rfl) rfl rfl (RD.step (v':=.tup [.int .i64 ((qlook f0.atf c9).getD 0),.int .i64 (qstamp f0.atf c9)]) (zx:=[(0,.box [.ptr 1 0,.own 8 3 0 f0.sets.length,.mapr 5]),(1,.box [.own 6 6 0 f0.t.l.length,.own 7 1 0 f0.t.free.length,.int .i64 f0.t.root,.int .i64 f0.t.n]),(5,.mq (qent f0.atf c9 0).1 ((qent f0.atf c9 0).2.map (encE (fun y=>.int .i64 y)))),(6,.row 6 101 (f0.t.l.map TNode.c)),(7,.row 1 3 (f0.t.free.map c_i64)),(8,.row 3 71 ((f0.sets.set c25.toNat (⟨l1,c9,0⟩ : TGroup)).map TGroup.c))]) (zy:=9) rfl rfl rfl (core_entQ (e:=(fun y=>.int .i64 y)) (z0:=0) rfl rfl) rfl rfl rfl (RD.q (.int .i64 (qstamp f0.atf c9)) ?_)))
   rcases qq (decide (qhas (qent f0.atf c9 0) (qstamp f0.atf c9) = true)) with hg4 | hg4
   ·replace hR:=wz hg4 hR
    cases hR
   replace hR:=wy hg4 hR; try dsimp only at hR
   have hg4_:=of_decide_eq_true hg4
   refine RD.step0 (zx:=[(0,.box [.ptr 1 0,.own 8 3 0 f0.sets.length,.mapr 5]),(1,.box [.own 6 6 0 f0.t.l.length,.own 7 1 0 f0.t.free.length,.int .i64 f0.t.root,.int .i64 f0.t.n]),(5,.mq (qput (qent f0.atf c9 0) (qstamp f0.atf c9) c25).1 ((qput (qent f0.atf c9 0) (qstamp f0.atf c9) c25).2.map (encE (fun y=>.int .i64 y)))),(6,.row 6 101 (f0.t.l.map TNode.c)),(7,.row 1 3 (f0.t.free.map c_i64)),(8,.row 3 71 ((f0.sets.set c25.toNat (⟨l1,c9,0⟩ : TGroup)).map TGroup.c))]) (zy:=9) rfl rfl (core_putQ (e:=(fun y=>.int .i64 y)) (y0:=c25) rfl (of_decide_eq_true hg4) rfl rfl) rfl rfl (RD.done rfl (WK.sr mixed (GX.m rfl (GX.q (.ptr 0 0) (GX.q (.ptr 0 1) (GX.q (.own 8 3 0 f0.sets.length) (GX.m rfl (GX.pure (v':=.eptr 8 3 c25.toNat 0) rfl rfl rfl (core_idxoT (c:=TGroup.c) (L:=(f0.sets.set c25.toNat (⟨l1,c9,0⟩ : TGroup))) (j:=c25.toNat) rfl hx902j (by first | exact hx902l | exact set_lt hx902l) (by simp)) rfl (GX.pure (v':=.eptr 8 3 c25.toNat 2) rfl rfl rfl (core_fldT (c:=TGroup.c) (L:=(f0.sets.set c25.toNat (⟨l1,c9,0⟩ : TGroup))) rfl (by (simp only [List.length_set]; omega)) rfl) rfl (GX.pure (v':=.int .i64 ((⟨l1,c9,0⟩ : TGroup).many)) rfl rfl rfl (core_loaT (c:=TGroup.c) (L:=(f0.sets.set c25.toNat (⟨l1,c9,0⟩ : TGroup))) (x:=(⟨l1,c9,0⟩ : TGroup)) rfl (set_at hx902) rfl) rfl (GX.q (.int .i64 (IntKind.i64.wrap (((⟨l1,c9,0⟩ : TGroup).many) + 1))) (GX.pure (v':=.eptr 8 3 c25.toNat 0) rfl rfl rfl (core_idxoT (c:=TGroup.c) (L:=(f0.sets.set c25.toNat (⟨l1,c9,0⟩ : TGroup))) (j:=c25.toNat) rfl hx902j (by first | exact hx902l | exact set_lt hx902l) (by simp)) rfl (GX.pure (v':=.eptr 8 3 c25.toNat 2) rfl rfl rfl (core_fldT (c:=TGroup.c) (L:=(f0.sets.set c25.toNat (⟨l1,c9,0⟩ : TGroup))) rfl (by (simp only [List.length_set]; omega)) rfl) rfl ?_)))))))))))))
   refine GX.step0 (zx:=[(0,.box [.ptr 1 0,.own 8 3 0 f0.sets.length,.mapr 5]),(1,.box [.own 6 6 0 f0.t.l.length,.own 7 1 0 f0.t.free.length,.int .i64 f0.t.root,.int .i64 f0.t.n]),(5,.mq (qput (qent f0.atf c9 0) (qstamp f0.atf c9) c25).1 ((qput (qent f0.atf c9 0) (qstamp f0.atf c9) c25).2.map (encE (fun y=>.int .i64 y)))),(6,.row 6 101 (f0.t.l.map TNode.c)),(7,.row 1 3 (f0.t.free.map c_i64)),(8,.row 3 71 (((f0.sets.set c25.toNat (⟨l1,c9,0⟩ : TGroup)).set c25.toNat (⟨(⟨l1,c9,0⟩ : TGroup).hops,(⟨l1,c9,0⟩ : TGroup).text,IntKind.i64.wrap (((⟨l1,c9,0⟩ : TGroup).many) + 1)⟩ : TGroup)).map TGroup.c))]) (zy:=9) rfl rfl (core_stoT (c:=TGroup.c) (L:=(f0.sets.set c25.toNat (⟨l1,c9,0⟩ : TGroup))) (x:=(⟨l1,c9,0⟩ : TGroup)) (x':=(⟨(⟨l1,c9,0⟩ : TGroup).hops,(⟨l1,c9,0⟩ : TGroup).text,IntKind.i64.wrap (((⟨l1,c9,0⟩ : TGroup).many) + 1)⟩ : TGroup)) rfl (set_at hx902) rfl rfl rfl rfl rfl) rfl rfl (GX.done (WK.sr mixed (GX.m rfl (GX.m rfl (GX.done (WK.ret ?_))))))
   obtain rfl:=Option.some.inj hR
   exact RetQ.ret [0,1,2,3,4,5,6,7,8] [] (.inr rfl) rfl rfl rfl (subR_cons rfl (viewO_box (qz rfl (qz (viewP_own_len rfl (by simp)) (qz rfl qw)))) (subR_cons rfl rfl (subR_skip rfl (subR_skip rfl (subR_skip rfl (subR_cons rfl rfl (subR_cons rfl rfl (subR_cons rfl rfl (subR_cons rfl rfl subR_nil))))))))) rfl .refl rfl
  ·rw [hb2]; first | replace hR:=wy hb2 hR | (try simp only [hb2,bb] at hR)
   refine WK.condT rfl (WK.sr mixed (GX.m rfl (GX.q (.ptr 0 0) (GX.q (.ptr 0 1) (GX.q (.own 8 3 0 f0.sets.length) (GX.q (.int .i64 (f0.sets.length:Int)) (GX.m rfl (GX.done (WK.drawn mixed (RD.pure (v':=.ptr 0 0) rfl rfl rfl rfl rfl (RD.pure (v':=.ptr 0 0) rfl rfl rfl rfl rfl (RD.pure (v':=.ptr 0 0) rfl rfl rfl rfl rfl (RD.pure (v':=.ptr 0 1) rfl rfl rfl rfl rfl ?_)))))))))))))
   refine RD.pure (v':=.own 8 3 0 f0.sets.length) rfl rfl rfl rfl rfl (RD.pureW (v':=.agg [.ro 2 (([]:List THop).map THop.c),.str (bstr []),.int .i64 0]) rfl rfl rfl rfl (.agg (.cons .nil .refl)) (RD.step (v':=.own 9 3 0 (([(⟨([]:List THop),(bstr []),0⟩ : TGroup)]:List TGroup)).length) (zx:=[(0,.box [.ptr 1 0,.own 8 3 0 f0.sets.length,.mapr 5]),(1,.box [.own 6 6 0 f0.t.l.length,.own 7 1 0 f0.t.free.length,.int .i64 f0.t.root,.int .i64 f0.t.n]),(5,.mq f0.atf.1 (f0.atf.2.map (encE (fun y=>.int .i64 y)))),(6,.row 6 101 (f0.t.l.map TNode.c)),(7,.row 1 3 (f0.t.free.map c_i64)),(8,.row 3 71 (f0.sets.map TGroup.c)),(9,.row 3 71 (([(⟨([]:List THop),(bstr []),0⟩ : TGroup)]:List TGroup).map TGroup.c))]) (zy:=10) rfl rfl rfl rfl rfl rfl rfl ?_))
   rcases qq (decide (f0.sets.length < 1099511627776)) with hg5 | hg5
   ·replace hR:=wz hg5 hR
    cases hR
   replace hR:=wy hg5 hR; try dsimp only at hR
   have hg5_:=of_decide_eq_true hg5
   refine RD.appT (c:=TGroup.c) (L:=f0.sets) (X:=([(⟨([]:List THop),(bstr []),0⟩ : TGroup)]:List TGroup)) (zx:=[(0,.box [.ptr 1 0,.own 8 3 0 f0.sets.length,.mapr 5]),(1,.box [.own 6 6 0 f0.t.l.length,.own 7 1 0 f0.t.free.length,.int .i64 f0.t.root,.int .i64 f0.t.n]),(5,.mq f0.atf.1 (f0.atf.2.map (encE (fun y=>.int .i64 y)))),(6,.row 6 101 (f0.t.l.map TNode.c)),(7,.row 1 3 (f0.t.free.map c_i64)),(9,.row 3 71 (([(⟨([]:List THop),(bstr []),0⟩ : TGroup)]:List TGroup).map TGroup.c)),(10,.row 3 71 ((f0.sets ++ ([(⟨([]:List THop),(bstr []),0⟩ : TGroup)]:List TGroup)).map TGroup.c))]) (zy:=11) rfl rfl rfl rfl (elems_own rfl) (by ((try simp only [List.length_append,List.length_cons,List.length_nil,List.length_map,decide_eq_true_eq,decide_eq_false_iff_not] at *) <;> omega)) (by ((try simp only [List.length_append,List.length_cons,List.length_nil,List.length_map,decide_eq_true_eq,decide_eq_false_iff_not] at *) <;> omega)) rfl rfl rfl rfl (RD.pure (v':=.ptr 0 0) rfl rfl rfl rfl rfl (RD.pure (v':=.ptr 0 1) rfl rfl rfl rfl rfl (RD.step0 (zx:=[(0,.box [.ptr 1 0,.own 10 3 0 (f0.sets ++ ([(⟨([]:List THop),(bstr []),0⟩ : TGroup)]:List TGroup)).length,.mapr 5]),(1,.box [.own 6 6 0 f0.t.l.length,.own 7 1 0 f0.t.free.length,.int .i64 f0.t.root,.int .i64 f0.t.n]),(5,.mq f0.atf.1 (f0.atf.2.map (encE (fun y=>.int .i64 y)))),(6,.row 6 101 (f0.t.l.map TNode.c)),(7,.row 1 3 (f0.t.free.map c_i64)),(9,.row 3 71 (([(⟨([]:List THop),(bstr []),0⟩ : TGroup)]:List TGroup).map TGroup.c)),(10,.row 3 71 ((f0.sets ++ ([(⟨([]:List THop),(bstr []),0⟩ : TGroup)]:List TGroup)).map TGroup.c))]) (zy:=11) rfl rfl rfl rfl rfl (RD.done0 (WK.drawn mixed (RD.m rfl (RD.q (.ptr 0 0) (RD.q (.ptr 0 1) (RD.q (.own 10 3 0 (f0.sets ++ ([(⟨([]:List THop),(bstr []),0⟩ : TGroup)]:List TGroup)).length) (RD.m rfl (RD.m rfl (RD.q (.ptr 0 0) (RD.q (.ptr 0 2) ?_)))))))))))))
   refine RD.q (.mapr 5) (RD.m rfl (RD.m rfl (RD.m rfl (RD.q (.agg [.ro 2 (l1.map THop.c),.str c9,.int .i64 0]) (RD.m rfl ?_)))))
   obtain ⟨x905,hx905,hR⟩:=zz hR; try dsimp only at hR
   obtain ⟨hx9050,hx905j,hx905l,hx905⟩:=zk hx905
   refine RD.pure (v':=.eptr 10 3 ((f0.sets.length:Int).toNat) 0) rfl rfl rfl (core_idxoT (c:=TGroup.c) (L:=(f0.sets ++ ([(⟨([]:List THop),(bstr []),0⟩ : TGroup)]:List TGroup))) (j:=(f0.sets.length:Int).toNat) rfl hx905j hx905l (by exact Nat.le_refl _)) rfl (RD.step0 (zx:=[(0,.box [.ptr 1 0,.own 10 3 0 (f0.sets ++ ([(⟨([]:List THop),(bstr []),0⟩ : TGroup)]:List TGroup)).length,.mapr 5]),(1,.box [.own 6 6 0 f0.t.l.length,.own 7 1 0 f0.t.free.length,.int .i64 f0.t.root,.int .i64 f0.t.n]),(5,.mq f0.atf.1 (f0.atf.2.map (encE (fun y=>.int .i64 y)))),(6,.row 6 101 (f0.t.l.map TNode.c)),(7,.row 1 3 (f0.t.free.map c_i64)),(9,.row 3 71 (([(⟨([]:List THop),(bstr []),0⟩ : TGroup)]:List TGroup).map TGroup.c)),(10,.row 3 71 (((f0.sets ++ ([(⟨([]:List THop),(bstr []),0⟩ : TGroup)]:List TGroup)).set (f0.sets.length:Int).toNat (⟨l1,c9,0⟩ : TGroup)).map TGroup.c))]) (zy:=11) rfl rfl (core_stoT (c:=TGroup.c) (L:=(f0.sets ++ ([(⟨([]:List THop),(bstr []),0⟩ : TGroup)]:List TGroup))) (x:=x905) (x':=(⟨l1,c9,0⟩ : TGroup)) rfl hx905 rfl rfl rfl rfl rfl) rfl rfl (RD.step (v':=.tup [.int .i64 ((qlook f0.atf c9).getD 0),.int .i64 (qstamp f0.atf c9)]) (zx:=[(0,.box [.ptr 1 0,.own 10 3 0 (f0.sets ++ ([(⟨([]:List THop),(bstr []),0⟩ : TGroup)]:List TGroup)).length,.mapr 5]),(1,.box [.own 6 6 0 f0.t.l.length,.own 7 1 0 f0.t.free.length,.int .i64 f0.t.root,.int .i64 f0.t.n]),(5,.mq (qent f0.atf c9 0).1 ((qent f0.atf c9 0).2.map (encE (fun y=>.int .i64 y)))),(6,.row 6 101 (f0.t.l.map TNode.c)),(7,.row 1 3 (f0.t.free.map c_i64)),(9,.row 3 71 (([(⟨([]:List THop),(bstr []),0⟩ : TGroup)]:List TGroup).map TGroup.c)),(10,.row 3 71 (((f0.sets ++ ([(⟨([]:List THop),(bstr []),0⟩ : TGroup)]:List TGroup)).set (f0.sets.length:Int).toNat (⟨l1,c9,0⟩ : TGroup)).map TGroup.c))]) (zy:=11) rfl rfl rfl (core_entQ (e:=(fun y=>.int .i64 y)) (z0:=0) rfl rfl) rfl rfl rfl (RD.q (.int .i64 (qstamp f0.atf c9)) ?_)))
   rcases qq (decide (qhas (qent f0.atf c9 0) (qstamp f0.atf c9) = true)) with hg7 | hg7
   ·replace hR:=wz hg7 hR
    cases hR
   replace hR:=wy hg7 hR; try dsimp only at hR
   have hg7_:=of_decide_eq_true hg7
   refine RD.step0 (zx:=[(0,.box [.ptr 1 0,.own 10 3 0 (f0.sets ++ ([(⟨([]:List THop),(bstr []),0⟩ : TGroup)]:List TGroup)).length,.mapr 5]),(1,.box [.own 6 6 0 f0.t.l.length,.own 7 1 0 f0.t.free.length,.int .i64 f0.t.root,.int .i64 f0.t.n]),(5,.mq (qput (qent f0.atf c9 0) (qstamp f0.atf c9) (f0.sets.length:Int)).1 ((qput (qent f0.atf c9 0) (qstamp f0.atf c9) (f0.sets.length:Int)).2.map (encE (fun y=>.int .i64 y)))),(6,.row 6 101 (f0.t.l.map TNode.c)),(7,.row 1 3 (f0.t.free.map c_i64)),(9,.row 3 71 (([(⟨([]:List THop),(bstr []),0⟩ : TGroup)]:List TGroup).map TGroup.c)),(10,.row 3 71 (((f0.sets ++ ([(⟨([]:List THop),(bstr []),0⟩ : TGroup)]:List TGroup)).set (f0.sets.length:Int).toNat (⟨l1,c9,0⟩ : TGroup)).map TGroup.c))]) (zy:=11) rfl rfl (core_putQ (e:=(fun y=>.int .i64 y)) (y0:=(f0.sets.length:Int)) rfl (of_decide_eq_true hg7) rfl rfl) rfl rfl (RD.done rfl (WK.sr mixed (GX.m rfl (GX.q (.ptr 0 0) (GX.q (.ptr 0 1) (GX.q (.own 10 3 0 (f0.sets ++ ([(⟨([]:List THop),(bstr []),0⟩ : TGroup)]:List TGroup)).length) (GX.m rfl (GX.pure (v':=.eptr 10 3 ((f0.sets.length:Int).toNat) 0) rfl rfl rfl (core_idxoT (c:=TGroup.c) (L:=((f0.sets ++ ([(⟨([]:List THop),(bstr []),0⟩ : TGroup)]:List TGroup)).set (f0.sets.length:Int).toNat (⟨l1,c9,0⟩ : TGroup))) (j:=(f0.sets.length:Int).toNat) rfl hx905j (by first | exact hx905l | exact set_lt hx905l) (by simp)) rfl (GX.pure (v':=.eptr 10 3 ((f0.sets.length:Int).toNat) 2) rfl rfl rfl (core_fldT (c:=TGroup.c) (L:=((f0.sets ++ ([(⟨([]:List THop),(bstr []),0⟩ : TGroup)]:List TGroup)).set (f0.sets.length:Int).toNat (⟨l1,c9,0⟩ : TGroup))) rfl (by (simp only [List.length_set]; omega)) rfl) rfl (GX.pure (v':=.int .i64 ((⟨l1,c9,0⟩ : TGroup).many)) rfl rfl rfl (core_loaT (c:=TGroup.c) (L:=((f0.sets ++ ([(⟨([]:List THop),(bstr []),0⟩ : TGroup)]:List TGroup)).set (f0.sets.length:Int).toNat (⟨l1,c9,0⟩ : TGroup))) (x:=(⟨l1,c9,0⟩ : TGroup)) rfl (set_at hx905) rfl) rfl (GX.q (.int .i64 (IntKind.i64.wrap (((⟨l1,c9,0⟩ : TGroup).many) + 1))) (GX.pure (v':=.eptr 10 3 ((f0.sets.length:Int).toNat) 0) rfl rfl rfl (core_idxoT (c:=TGroup.c) (L:=((f0.sets ++ ([(⟨([]:List THop),(bstr []),0⟩ : TGroup)]:List TGroup)).set (f0.sets.length:Int).toNat (⟨l1,c9,0⟩ : TGroup))) (j:=(f0.sets.length:Int).toNat) rfl hx905j (by first | exact hx905l | exact set_lt hx905l) (by simp)) rfl (GX.pure (v':=.eptr 10 3 ((f0.sets.length:Int).toNat) 2) rfl rfl rfl (core_fldT (c:=TGroup.c) (L:=((f0.sets ++ ([(⟨([]:List THop),(bstr []),0⟩ : TGroup)]:List TGroup)).set (f0.sets.length:Int).toNat (⟨l1,c9,0⟩ : TGroup))) rfl (by (simp only [List.length_set]; omega)) rfl) rfl ?_)))))))))))))
   refine GX.step0 (zx:=[(0,.box [.ptr 1 0,.own 10 3 0 (f0.sets ++ ([(⟨([]:List THop),(bstr []),0⟩ : TGroup)]:List TGroup)).length,.mapr 5]),(1,.box [.own 6 6 0 f0.t.l.length,.own 7 1 0 f0.t.free.length,.int .i64 f0.t.root,.int .i64 f0.t.n]),(5,.mq (qput (qent f0.atf c9 0) (qstamp f0.atf c9) (f0.sets.length:Int)).1 ((qput (qent f0.atf c9 0) (qstamp f0.atf c9) (f0.sets.length:Int)).2.map (encE (fun y=>.int .i64 y)))),(6,.row 6 101 (f0.t.l.map TNode.c)),(7,.row 1 3 (f0.t.free.map c_i64)),(9,.row 3 71 (([(⟨([]:List THop),(bstr []),0⟩ : TGroup)]:List TGroup).map TGroup.c)),(10,.row 3 71 ((((f0.sets ++ ([(⟨([]:List THop),(bstr []),0⟩ : TGroup)]:List TGroup)).set (f0.sets.length:Int).toNat (⟨l1,c9,0⟩ : TGroup)).set (f0.sets.length:Int).toNat (⟨(⟨l1,c9,0⟩ : TGroup).hops,(⟨l1,c9,0⟩ : TGroup).text,IntKind.i64.wrap (((⟨l1,c9,0⟩ : TGroup).many) + 1)⟩ : TGroup)).map TGroup.c))]) (zy:=11) rfl rfl (core_stoT (c:=TGroup.c) (L:=((f0.sets ++ ([(⟨([]:List THop),(bstr []),0⟩ : TGroup)]:List TGroup)).set (f0.sets.length:Int).toNat (⟨l1,c9,0⟩ : TGroup))) (x:=(⟨l1,c9,0⟩ : TGroup)) (x':=(⟨(⟨l1,c9,0⟩ : TGroup).hops,(⟨l1,c9,0⟩ : TGroup).text,IntKind.i64.wrap (((⟨l1,c9,0⟩ : TGroup).many) + 1)⟩ : TGroup)) rfl (set_at hx905) rfl rfl rfl rfl rfl) rfl rfl (GX.done (WK.sr mixed (GX.m rfl (GX.m rfl (GX.done (WK.ret ?_))))))
   obtain rfl:=Option.some.inj hR
   exact RetQ.ret [0,1,2,3,4,5,6,7,10] [] (.inr rfl) rfl rfl rfl (subR_cons rfl (viewO_box (qz rfl (qz (viewP_own_len rfl (by simp)) (qz rfl qw)))) (subR_cons rfl rfl (subR_skip rfl (subR_skip rfl (subR_skip rfl (subR_cons rfl rfl (subR_cons rfl rfl (subR_cons rfl rfl (subR_cons rfl rfl subR_nil))))))))) rfl .refl rfl
 ·rw [hb1]; try simp only [hb1,bb] at hR
  refine WK.condF rfl (WK.skip (WK.sr mixed (GX.m rfl (GX.q (.ptr 0 0) (GX.q (.ptr 0 1) (GX.q (.own 8 3 0 f0.sets.length) (GX.m rfl ?_)))))))
  obtain ⟨x907,hx907,hR⟩:=zz hR; try dsimp only at hR
  obtain ⟨hx9070,hx907j,hx907l,hx907⟩:=zk hx907
  refine GX.pure (v':=.eptr 8 3 (((qlook f0.atf c9).getD 0).toNat) 0) rfl rfl rfl (core_idxoT (c:=TGroup.c) (L:=f0.sets) (j:=((qlook f0.atf c9).getD 0).toNat) rfl hx907j hx907l (by exact Nat.le_refl _)) rfl (GX.pure (v':=.eptr 8 3 (((qlook f0.atf c9).getD 0).toNat) 2) rfl rfl rfl (core_fldT (c:=TGroup.c) (L:=f0.sets) rfl (by omega) rfl) rfl (GX.pure (v':=.int .i64 x907.many) rfl rfl rfl (core_loaT (c:=TGroup.c) (L:=f0.sets) (x:=x907) rfl hx907 rfl) rfl (GX.q (.int .i64 (IntKind.i64.wrap (x907.many + 1))) (GX.pure (v':=.eptr 8 3 (((qlook f0.atf c9).getD 0).toNat) 0) rfl rfl rfl (core_idxoT (c:=TGroup.c) (L:=f0.sets) (j:=((qlook f0.atf c9).getD 0).toNat) rfl hx907j hx907l (by exact Nat.le_refl _)) rfl (GX.pure (v':=.eptr 8 3 (((qlook f0.atf c9).getD 0).toNat) 2) rfl rfl rfl (core_fldT (c:=TGroup.c) (L:=f0.sets) rfl (by omega) rfl) rfl (GX.step0 (zx:=[(0,.box [.ptr 1 0,.own 8 3 0 f0.sets.length,.mapr 5]),(1,.box [.own 6 6 0 f0.t.l.length,.own 7 1 0 f0.t.free.length,.int .i64 f0.t.root,.int .i64 f0.t.n]),(5,.mq f0.atf.1 (f0.atf.2.map (encE (fun y=>.int .i64 y)))),(6,.row 6 101 (f0.t.l.map TNode.c)),(7,.row 1 3 (f0.t.free.map c_i64)),(8,.row 3 71 ((f0.sets.set ((qlook f0.atf c9).getD 0).toNat (⟨x907.hops,x907.text,IntKind.i64.wrap (x907.many + 1)⟩ : TGroup)).map TGroup.c))]) (zy:=9) rfl rfl (core_stoT (c:=TGroup.c) (L:=f0.sets) (x:=x907) (x':=(⟨x907.hops,x907.text,IntKind.i64.wrap (x907.many + 1)⟩ : TGroup)) rfl hx907 rfl rfl rfl rfl rfl) rfl rfl (GX.done (WK.sr mixed (GX.m rfl (GX.m rfl (GX.done (WK.ret ?_))))))))))))
  obtain rfl:=Option.some.inj hR
  exact RetQ.ret [0,1,2,3,4,5,6,7,8] [] (.inr rfl) rfl rfl rfl (subR_cons rfl (viewO_box (qz rfl (qz (viewP_own_len rfl (by simp)) (qz rfl qw)))) (subR_cons rfl rfl (subR_skip rfl (subR_skip rfl (subR_skip rfl (subR_cons rfl rfl (subR_cons rfl rfl (subR_cons rfl rfl (subR_cons rfl rfl subR_nil))))))))) rfl .refl rfl
end Go.Proofs.YtakallenldpkiaaGreatDoor.Abs
