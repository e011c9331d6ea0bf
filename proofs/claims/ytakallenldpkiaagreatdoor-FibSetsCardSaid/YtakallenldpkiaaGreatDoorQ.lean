/- Functions walked ahead of all others, whatever is asked of the tape (printed by this work's own program gen.py). -/
import Derived.Test.YtakallenldpkiaaGreatDoorEn
set_option linter.unusedVariables false
set_option linter.unusedSimpArgs false
set_option linter.unusedSectionVars false
set_option maxRecDepth 10000
set_option maxHeartbeats 4000000
namespace Go.Proofs.YtakallenldpkiaaGreatDoor.Abs
open Go
variable [DqC]
theorem f38_ok (vals0:List Int) (R:Int) (hR:F38 vals0 = R):FnOk Tryz.prog 38 [.ro 1 (vals0.map c_i64)] [] 0 (.int .i64 R) [] 0:=by
 refine FnOk.wk i38 rfl rfl ?_
 unfold F38 at hR
 change WK _ _ _ [ac38] _ ⟨[(0,.ro 1 (vals0.map c_i64))],[],0⟩
 unfold ac38
 refine WK.sr mixed ?_
 refine GX.m rfl ?_
 refine GX.done ?_
 refine WK.sr mixed ?_
 refine GX.m rfl ?_
 refine GX.done ?_
 refine WK.seq ?_
 refine WK.sr mixed ?_
 refine GX.m rfl ?_
 refine GX.pure (v':=.int .i64 (vals0.length:Int)) rfl rfl rfl rfl (zj _ _) ?_
 refine GX.m rfl ?_
 refine GX.done ?_
 refine WK.len (t:=0) rfl (by simp) (fun ge1=>?_)
 rw [List.length_map] at ge1
 generalize gi1:F38l1 vals0 = gh1 at hR
 refine WK.forK (fun k s=>∃ (i8:Nat),i8 ≤ vals0.length ∧ k = vals0.length - i8 ∧ F38l1 (vals0.drop i8) = gh1 ∧ s = ⟨[(3,.int .i64 0),(6,.ro 1 (vals0.map c_i64)),(7,.int .i64 (vals0.length:Int)),(8,.int .i64 (i8:Int))],[],0⟩) vals0.length (by refine ⟨_,?_,0,(by first | (omega; trace "@@38 a1239889a1ea99c9 0 0") | (((try simp only [List.length_append,List.length_cons,List.length_nil,decide_eq_true_eq,decide_eq_false_iff_not] at *) <;> first | omega | (rw [wrap64_of (by omega) (by omega)]; omega)); trace "@@38 a1239889a1ea99c9 0 1") | ((have hlf:=may03_len (by assumption) (by assumption); omega); trace "@@38 a1239889a1ea99c9 0 2") | ((unfold min_; split <;> omega); trace "@@38 a1239889a1ea99c9 0 3") | ((have hlf:=may03_len (by assumption) (by assumption); (try simp only [decide_eq_true_eq,decide_eq_false_iff_not] at *); rw [wrap64_of (by omega) (by omega)]; omega); trace "@@38 a1239889a1ea99c9 0 4")),rfl,gi1,rfl⟩; exact Conv.keep [] [] [3,6,7,8] rfl rfl (qx rfl rfl (qx rfl rfl (qx rfl rfl (qx rfl rfl qy)))) rfl rfl) ?_
 rintro _ _ ⟨i8,gj1,rfl,gg1,rfl⟩ gb1 gd1 gk1 ga1 gc1 hQ_1
 refine WK.sr mixed ?_
 refine GX.q (.bool (decide ((i8:Int) < (vals0.length:Int)))) ?_
 refine GX.done ?_
 refine WK.seq ?_
 rcases qq (decide ((i8:Int) < (vals0.length:Int))) with hb2 | hb2
 ·rw [hb2]
  rw [drop_end hb2,F38l1] at gg1
  refine WK.condF rfl ?_
  refine WK.exit ?_
  refine QF.exit (gc1 _ ?_)
  subst gg1
  try dsimp only [cond_true,cond_false] at hR
  refine WK.sr mixed ?_
  refine GX.m rfl ?_
  refine GX.m rfl ?_
  refine GX.done ?_
  refine WK.ret ?_
  subst hR
  exact RetQ.fr [] (.inr rfl) rfl rfl rfl rfl
 ·rw [hb2]
  obtain ⟨x8,hx1,hd1,hlt1⟩:=drop_more hb2
  rw [hd1,F38l1] at gg1
  refine WK.condT rfl ?_
  refine WK.skip ?_
  refine WK.seq ?_
  refine WK.blockK (fun _ hK3=>?_)
  refine WK.sr mixed ?_
  refine GX.idxT (c:=c_i64) (x:=x8) rfl rfl rfl (Int.natCast_nonneg _) hx1 ?_
  refine GX.q (.int .i64 x8) ?_
  refine GX.m rfl ?_
  refine GX.done ?_
  refine WK.sr mixed ?_
  refine GX.m rfl ?_
  refine GX.m rfl ?_
  refine GX.q (.bool (!decide (x8 = 0))) ?_
  refine GX.done ?_
  rcases qq (decide (x8 = 0)) with hb4 | hb4
  ·rw [hb4]; try simp only [hb4,bb] at gg1
   refine WK.condT rfl ?_
   refine WK.sr mixed ?_
   refine GX.m rfl ?_
   refine GX.m rfl ?_
   refine GX.done ?_
   refine WK.ret ?_
   refine QF.ret ?_
   refine QF.ret (hQ_1 _ _ ?_)
   subst gg1
   subst hR
   exact RetQ.fr [] (.inr rfl) rfl rfl rfl rfl
  ·rw [hb4]; try simp only [hb4,bb] at gg1
   refine WK.condF rfl ?_
   refine WK.skip ?_
   refine WK.nil (QF.normal (hK3 _ ?_))
   refine WK.regx mixed ?_
   refine GX.pure (v':=.int .i64 ((i8 + 1:Nat):Int)) rfl rfl rfl rfl (congrArg (PVal.int .i64) (wrap_up hlt1 ge1)) ?_
   refine GX.m rfl ?_
   refine GX.done ?_
   refine WK.nil (QF.normal ?_)
   refine ga1 _ (vals0.length - (i8 + 1)) _ (by first | (omega; trace "@@38 a1239889a1ea99c9 1 0") | (((try simp only [List.length_append,List.length_cons,List.length_nil,decide_eq_true_eq,decide_eq_false_iff_not] at *) <;> first | omega | (rw [wrap64_of (by omega) (by omega)]; omega)); trace "@@38 a1239889a1ea99c9 1 1") | ((have hlf:=may03_len (by assumption) (by assumption); omega); trace "@@38 a1239889a1ea99c9 1 2") | ((unfold min_; split <;> omega); trace "@@38 a1239889a1ea99c9 1 3") | ((have hlf:=may03_len (by assumption) (by assumption); (try simp only [decide_eq_true_eq,decide_eq_false_iff_not] at *); rw [wrap64_of (by omega) (by omega)]; omega); trace "@@38 a1239889a1ea99c9 1 4")) ?_ ⟨i8 + 1,(by first | (omega; trace "@@38 a1239889a1ea99c9 2 0") | (((try simp only [List.length_append,List.length_cons,List.length_nil,decide_eq_true_eq,decide_eq_false_iff_not] at *) <;> first | omega | (rw [wrap64_of (by omega) (by omega)]; omega)); trace "@@38 a1239889a1ea99c9 2 1") | ((have hlf:=may03_len (by assumption) (by assumption); omega); trace "@@38 a1239889a1ea99c9 2 2") | ((unfold min_; split <;> omega); trace "@@38 a1239889a1ea99c9 2 3") | ((have hlf:=may03_len (by assumption) (by assumption); (try simp only [decide_eq_true_eq,decide_eq_false_iff_not] at *); rw [wrap64_of (by omega) (by omega)]; omega); trace "@@38 a1239889a1ea99c9 2 4")),rfl,gg1,rfl⟩
   exact Conv.keep [] [] [3,6,7,8] rfl rfl (qx rfl rfl (qx rfl rfl (qx rfl rfl (qx rfl rfl qy)))) rfl rfl
theorem f54_ok (x0:Int) (R:Bool) (hR:F54 x0 = R):FnOk Tryz.prog 54 [.int .i64 x0] [] 0 (.bool R) [] 0:=by
 refine FnOk.wk i54 rfl rfl ?_
 unfold F54 at hR
 change WK _ _ _ [ac54] _ ⟨[(0,.int .i64 x0)],[],0⟩
 unfold ac54
 refine WK.sr mixed ?_
 refine GX.m rfl ?_
 refine GX.done ?_
 refine WK.sr mixed ?_
 refine GX.m rfl ?_
 refine GX.m rfl ?_
 refine GX.q (.bool (!decide (x0 = x0))) ?_
 refine GX.m rfl ?_
 refine GX.done ?_
 refine WK.ret ?_
 subst hR
 exact RetQ.fr [] (.inr rfl) rfl rfl rfl rfl
theorem f39_ok (x0:Int) (y1:Int) (R:Int) (hR:F39 x0 y1 = R):FnOk Tryz.prog 39 [.int .i64 x0,.int .i64 y1] [] 0 (.int .i64 R) [] 0:=by
 refine FnOk.wk i39 rfl rfl ?_
 unfold F39 at hR
 change WK _ _ _ [ac39] _ ⟨[(0,.int .i64 x0),(1,.int .i64 y1)],[],0⟩
 unfold ac39
 refine WK.sr mixed ?_
 refine GX.m rfl ?_
 refine GX.done ?_
 refine WK.sr mixed ?_
 refine GX.m rfl ?_
 generalize hc8:F54 x0 = c8 at hR
 try dsimp only at hR
 refine GX.callp (r:=.bool c8) rfl rfl rfl (f54_ok x0 _ hc8) rfl rfl ?_
 refine GX.m rfl ?_
 refine GX.done ?_
 refine WK.sr mixed ?_
 refine GX.m rfl ?_
 generalize hc10:F54 y1 = c10 at hR
 try dsimp only at hR
 refine GX.callp (r:=.bool c10) rfl rfl rfl (f54_ok y1 _ hc10) rfl rfl ?_
 refine GX.m rfl ?_
 refine GX.done ?_
 refine WK.seq ?_
 refine WK.sr mixed ?_
 refine GX.m rfl ?_
 refine GX.done ?_
 rcases qq (c8) with hb1 | hb1
 ·rw [hb1]; try simp only [hb1,bb] at hR
  refine WK.condF rfl ?_
  refine WK.skip ?_
  refine WK.seq ?_
  refine WK.sr mixed ?_
  refine GX.m rfl ?_
  refine GX.done ?_
  rcases qq (c10) with hb2 | hb2
  ·rw [hb2]; try simp only [hb2,bb] at hR
   refine WK.condF rfl ?_
   refine WK.skip ?_
   refine WK.seq ?_
   refine WK.sr mixed ?_
   refine GX.m rfl ?_
   refine GX.m rfl ?_
   refine GX.q (.bool (decide (x0 < y1))) ?_
   refine GX.done ?_
   rcases qq (decide (x0 < y1)) with hb3 | hb3
   ·rw [hb3]; try simp only [hb3,bb] at hR
    refine WK.condF rfl ?_
    refine WK.skip ?_
    refine WK.seq ?_
    refine WK.sr mixed ?_
    refine GX.m rfl ?_
    refine GX.m rfl ?_
    refine GX.q (.bool (decide (y1 < x0))) ?_
    refine GX.done ?_
    rcases qq (decide (y1 < x0)) with hb4 | hb4
    ·rw [hb4]; try simp only [hb4,bb] at hR
     refine WK.condF rfl ?_
     refine WK.skip ?_
     refine WK.sr mixed ?_
     refine GX.m rfl ?_
     refine GX.done ?_
     refine WK.ret ?_
     subst hR
     exact RetQ.fr [] (.inr rfl) rfl rfl rfl rfl
    ·rw [hb4]; try simp only [hb4,bb] at hR
     refine WK.condT rfl ?_
     refine WK.sr mixed ?_
     refine GX.m rfl ?_
     refine GX.done ?_
     refine WK.ret ?_
     subst hR
     exact RetQ.fr [] (.inr rfl) rfl rfl rfl rfl
   ·rw [hb3]; try simp only [hb3,bb] at hR
    refine WK.condT rfl ?_
    refine WK.sr mixed ?_
    refine GX.m rfl ?_
    refine GX.done ?_
    refine WK.ret ?_
    subst hR
    exact RetQ.fr [] (.inr rfl) rfl rfl rfl rfl
  ·rw [hb2]; try simp only [hb2,bb] at hR
   refine WK.condT rfl ?_
   refine WK.sr mixed ?_
   refine GX.m rfl ?_
   refine GX.done ?_
   refine WK.ret ?_
   subst hR
   exact RetQ.fr [] (.inr rfl) rfl rfl rfl rfl
 ·rw [hb1]; try simp only [hb1,bb] at hR
  refine WK.condT rfl ?_
  refine WK.seq ?_
  refine WK.sr mixed ?_
  refine GX.m rfl ?_
  refine GX.done ?_
  rcases qq (c10) with hb5 | hb5
  ·rw [hb5]; try simp only [hb5,bb] at hR
   refine WK.condF rfl ?_
   refine WK.skip ?_
   refine WK.sr mixed ?_
   refine GX.m rfl ?_
   refine GX.done ?_
   refine WK.ret ?_
   subst hR
   exact RetQ.fr [] (.inr rfl) rfl rfl rfl rfl
  ·rw [hb5]; try simp only [hb5,bb] at hR
   refine WK.condT rfl ?_
   refine WK.sr mixed ?_
   refine GX.m rfl ?_
   refine GX.done ?_
   refine WK.ret ?_
   subst hR
   exact RetQ.fr [] (.inr rfl) rfl rfl rfl rfl
theorem f55_ok (x0:Int) (R:Bool) (hR:F55 x0 = R):FnOk Tryz.prog 55 [.int .u32 x0] [] 0 (.bool R) [] 0:=by
 refine FnOk.wk i55 rfl rfl ?_
 unfold F55 at hR
 change WK _ _ _ [ac55] _ ⟨[(0,.int .u32 x0)],[],0⟩
 unfold ac55
 refine WK.sr mixed ?_
 refine GX.m rfl ?_
 refine GX.done ?_
 refine WK.sr mixed ?_
 refine GX.m rfl ?_
 refine GX.m rfl ?_
 refine GX.q (.bool (!decide (x0 = x0))) ?_
 refine GX.m rfl ?_
 refine GX.done ?_
 refine WK.ret ?_
 subst hR
 exact RetQ.fr [] (.inr rfl) rfl rfl rfl rfl
theorem f40_ok (x0:Int) (y1:Int) (R:Int) (hR:F40 x0 y1 = R):FnOk Tryz.prog 40 [.int .u32 x0,.int .u32 y1] [] 0 (.int .i64 R) [] 0:=by
 refine FnOk.wk i40 rfl rfl ?_
 unfold F40 at hR
 change WK _ _ _ [ac40] _ ⟨[(0,.int .u32 x0),(1,.int .u32 y1)],[],0⟩
 unfold ac40
 refine WK.sr mixed ?_
 refine GX.m rfl ?_
 refine GX.done ?_
 refine WK.sr mixed ?_
 refine GX.m rfl ?_
 generalize hc8:F55 x0 = c8 at hR
 try dsimp only at hR
 refine GX.callp (r:=.bool c8) rfl rfl rfl (f55_ok x0 _ hc8) rfl rfl ?_
 refine GX.m rfl ?_
 refine GX.done ?_
 refine WK.sr mixed ?_
 refine GX.m rfl ?_
 generalize hc10:F55 y1 = c10 at hR
 try dsimp only at hR
 refine GX.callp (r:=.bool c10) rfl rfl rfl (f55_ok y1 _ hc10) rfl rfl ?_
 refine GX.m rfl ?_
 refine GX.done ?_
 refine WK.seq ?_
 refine WK.sr mixed ?_
 refine GX.m rfl ?_
 refine GX.done ?_
 rcases qq (c8) with hb1 | hb1
 ·rw [hb1]; try simp only [hb1,bb] at hR
  refine WK.condF rfl ?_
  refine WK.skip ?_
  refine WK.seq ?_
  refine WK.sr mixed ?_
  refine GX.m rfl ?_
  refine GX.done ?_
  rcases qq (c10) with hb2 | hb2
  ·rw [hb2]; try simp only [hb2,bb] at hR
   refine WK.condF rfl ?_
   refine WK.skip ?_
   refine WK.seq ?_
   refine WK.sr mixed ?_
   refine GX.m rfl ?_
   refine GX.m rfl ?_
   refine GX.q (.bool (decide (x0 < y1))) ?_
   refine GX.done ?_
   rcases qq (decide (x0 < y1)) with hb3 | hb3
   ·rw [hb3]; try simp only [hb3,bb] at hR
    refine WK.condF rfl ?_
    refine WK.skip ?_
    refine WK.seq ?_
    refine WK.sr mixed ?_
    refine GX.m rfl ?_
    refine GX.m rfl ?_
    refine GX.q (.bool (decide (y1 < x0))) ?_
    refine GX.done ?_
    rcases qq (decide (y1 < x0)) with hb4 | hb4
    ·rw [hb4]; try simp only [hb4,bb] at hR
     refine WK.condF rfl ?_
     refine WK.skip ?_
     refine WK.sr mixed ?_
     refine GX.m rfl ?_
     refine GX.done ?_
     refine WK.ret ?_
     subst hR
     exact RetQ.fr [] (.inr rfl) rfl rfl rfl rfl
    ·rw [hb4]; try simp only [hb4,bb] at hR
     refine WK.condT rfl ?_
     refine WK.sr mixed ?_
     refine GX.m rfl ?_
     refine GX.done ?_
     refine WK.ret ?_
     subst hR
     exact RetQ.fr [] (.inr rfl) rfl rfl rfl rfl
   ·rw [hb3]; try simp only [hb3,bb] at hR
    refine WK.condT rfl ?_
    refine WK.sr mixed ?_
    refine GX.m rfl ?_
    refine GX.done ?_
    refine WK.ret ?_
    subst hR
    exact RetQ.fr [] (.inr rfl) rfl rfl rfl rfl
  ·rw [hb2]; try simp only [hb2,bb] at hR
   refine WK.condT rfl ?_
   refine WK.sr mixed ?_
   refine GX.m rfl ?_
   refine GX.done ?_
   refine WK.ret ?_
   subst hR
   exact RetQ.fr [] (.inr rfl) rfl rfl rfl rfl
 ·rw [hb1]; try simp only [hb1,bb] at hR
  refine WK.condT rfl ?_
  refine WK.seq ?_
  refine WK.sr mixed ?_
  refine GX.m rfl ?_
  refine GX.done ?_
  rcases qq (c10) with hb5 | hb5
  ·rw [hb5]; try simp only [hb5,bb] at hR
   refine WK.condF rfl ?_
   refine WK.skip ?_
   refine WK.sr mixed ?_
   refine GX.m rfl ?_
   refine GX.done ?_
   refine WK.ret ?_
   subst hR
   exact RetQ.fr [] (.inr rfl) rfl rfl rfl rfl
  ·rw [hb5]; try simp only [hb5,bb] at hR
   refine WK.condT rfl ?_
   refine WK.sr mixed ?_
   refine GX.m rfl ?_
   refine GX.done ?_
   refine WK.ret ?_
   subst hR
   exact RetQ.fr [] (.inr rfl) rfl rfl rfl rfl
theorem f37_ok (a0:THop) (b1:THop) (R:Int) (hR:F37 a0 b1 = R):FnOk Tryz.prog 37 [.agg (THop.c a0),.agg (THop.c b1)] [] 0 (.int .i64 R) [] 0:=by
 refine FnOk.wk i37 rfl rfl ?_
 unfold F37 at hR
 change WK _ _ _ [ac37] _ ⟨[(0,.agg (THop.c a0)),(1,.agg (THop.c b1))],[],0⟩
 unfold ac37
 refine WK.sr mixed ?_
 refine GX.step (v':=.ptr 0 0) (zx:=[(0,.box (THop.c a0))]) (zy:=1) rfl rfl rfl rfl rfl rfl rfl ?_
 refine GX.step (v':=.ptr 1 0) (zx:=[(0,.box (THop.c a0)),(1,.box (THop.c b1))]) (zy:=2) rfl rfl rfl rfl rfl rfl rfl ?_
 refine GX.m rfl ?_
 refine GX.done ?_
 refine WK.seq ?_
 refine WK.drawn mixed ?_
 refine RD.q (.ptr 0 0) ?_
 refine RD.q (.int .i64 a0.Iface) ?_
 refine RD.q (.ptr 1 0) ?_
 refine RD.q (.int .i64 b1.Iface) ?_
 generalize hc9:F39 a0.Iface b1.Iface = c9 at hR
 try dsimp only at hR
 refine RD.callp (r:=.int .i64 c9) rfl rfl rfl (f39_ok a0.Iface b1.Iface _ hc9) rfl rfl ?_
 refine RD.q (.ptr 0 1) ?_
 refine RD.q (.int .u32 a0.Gate) ?_
 refine RD.q (.ptr 1 1) ?_
 refine RD.q (.int .u32 b1.Gate) ?_
 generalize hc14:F40 a0.Gate b1.Gate = c14 at hR
 try dsimp only at hR
 refine RD.callp (r:=.int .i64 c14) rfl rfl rfl (f40_ok a0.Gate b1.Gate _ hc14) rfl rfl ?_
 refine RD.step (v':=.own 2 1 0 (([c9,c14]:List Int)).length) (zx:=[(0,.box (THop.c a0)),(1,.box (THop.c b1)),(2,.row 1 3 (([c9,c14]:List Int).map c_i64))]) (zy:=3) rfl rfl rfl rfl rfl rfl rfl ?_
 generalize hc16:F38 ([c9,c14]:List Int) = c16 at hR
 try dsimp only at hR
 refine RD.callbp (r:=.int .i64 c16) [2] rfl rfl rfl (qz (view_rowT rfl rfl) qw) (f38_ok ([c9,c14]:List Int) _ hc16) rfl rfl ?_
 refine RD.m rfl ?_
 refine RD.done rfl ?_
 refine WK.ret ?_
 subst hR
 exact RetQ.fr [] (.inr rfl) rfl rfl rfl rfl
end Go.Proofs.YtakallenldpkiaaGreatDoor.Abs
