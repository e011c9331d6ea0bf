/- Functions walked ahead of all others, whatever is asked of the tape (printed by this work's own program gen.py). -/
import Derived.Test.YtakallenldpkiaaDoorEn
set_option linter.unusedVariables false
set_option linter.unusedSimpArgs false
set_option linter.unusedSectionVars false
set_option maxRecDepth 10000
set_option maxHeartbeats 4000000
namespace Go.Proofs.YtakallenldpkiaaDoor.Abs
open Go
variable [DqC]
theorem f33_ok (vals0 : List Int) (R : Int) (hR : F33_cmp_Or vals0 = R) : FnOk Tryd.prog 33 [.ro 1 (vals0.map c_i64)] [] 0 (.int .i64 R) [] 0 := by
 refine FnOk.wk i33 rfl rfl ?_
 unfold F33_cmp_Or at hR
 change WK _ _ _ [ac33] _ ⟨[(0, .ro 1 (vals0.map c_i64))], [], 0⟩
 unfold ac33
 refine WK.sr mixed ?_
 refine GX.m rfl ?_
 refine GX.done ?_
 refine WK.sr mixed ?_
 refine GX.m rfl ?_
 refine GX.done ?_
 refine WK.seq ?_
 refine WK.sr mixed ?_
 refine GX.m rfl ?_
 refine GX.pure (v' := .int .i64 (vals0.length : Int)) rfl rfl rfl rfl (len_map _ _) ?_
 refine GX.m rfl ?_
 refine GX.done ?_
 refine WK.len (t := 0) rfl (by simp) (fun hlen_1 => ?_)
 rw [List.length_map] at hlen_1
 generalize hZ_1 : F33_cmp_Or_l1 vals0 = Z_1 at hR
 refine WK.forK (fun k s => ∃ (i8 : Nat), i8 ≤ vals0.length ∧ k = vals0.length - i8 ∧ F33_cmp_Or_l1 (vals0.drop i8) = Z_1 ∧ s = ⟨[(3, .int .i64 0), (6, .ro 1 (vals0.map c_i64)), (7, .int .i64 (vals0.length : Int)), (8, .int .i64 (i8 : Int))], [], 0⟩) vals0.length (by refine ⟨_, ?_, 0, (by first | (omega; trace "@@33 8faa9244a801a635 0 0") | (((try simp only [List.length_append, List.length_cons, List.length_nil, decide_eq_true_eq, decide_eq_false_iff_not] at *) <;> first | omega | (rw [wrap64_of (by omega) (by omega)]; omega)); trace "@@33 8faa9244a801a635 0 1") | ((unfold min_; split <;> omega); trace "@@33 8faa9244a801a635 0 2")), rfl, hZ_1, rfl⟩; exact Conv.keep [] [] [3, 6, 7, 8] rfl rfl (viewE_cons rfl rfl (viewE_cons rfl rfl (viewE_cons rfl rfl (viewE_cons rfl rfl viewE_nil)))) rfl rfl) ?_
 rintro _ _ ⟨i8, hi_1, rfl, hL_1, rfl⟩ again_1 out_1 Q_1 hagain_1 hout_1 hQ_1
 refine WK.sr mixed ?_
 refine GX.q (.bool (decide ((i8 : Int) < (vals0.length : Int)))) ?_
 refine GX.done ?_
 refine WK.seq ?_
 rcases bool_two (decide ((i8 : Int) < (vals0.length : Int))) with hb2 | hb2
 ·rw [hb2]
  rw [drop_end hb2, F33_cmp_Or_l1] at hL_1
  refine WK.condF rfl ?_
  refine WK.exit ?_
  refine QF.exit (hout_1 _ ?_)
  subst hL_1
  try dsimp only [cond_true, cond_false] at hR
  refine WK.sr mixed ?_
  refine GX.m rfl ?_
  refine GX.m rfl ?_
  refine GX.done ?_
  refine WK.ret ?_
  subst hR
  exact RetQ.fr [] (.inr rfl) rfl rfl rfl rfl
 ·rw [hb2]
  obtain ⟨x8, hx1, hd1, hlt1⟩ := drop_more hb2
  rw [hd1, F33_cmp_Or_l1] at hL_1
  refine WK.condT rfl ?_
  refine WK.skip ?_
  refine WK.seq ?_
  refine WK.blockK (fun _ hK3 => ?_)
  refine WK.sr mixed ?_
  refine GX.idxT (c := c_i64) (x := x8) rfl rfl rfl (Int.natCast_nonneg _) hx1 ?_
  refine GX.q (.int .i64 x8) ?_
  refine GX.m rfl ?_
  refine GX.done ?_
  refine WK.sr mixed ?_
  refine GX.m rfl ?_
  refine GX.m rfl ?_
  refine GX.q (.bool (!decide (x8 = 0))) ?_
  refine GX.done ?_
  rcases bool_two (decide (x8 = 0)) with hb4 | hb4
  ·rw [hb4]; try simp only [hb4, bb] at hL_1
   refine WK.condT rfl ?_
   refine WK.sr mixed ?_
   refine GX.m rfl ?_
   refine GX.m rfl ?_
   refine GX.done ?_
   refine WK.ret ?_
   refine QF.ret ?_
   refine QF.ret (hQ_1 _ _ ?_)
   subst hL_1
   subst hR
   exact RetQ.fr [] (.inr rfl) rfl rfl rfl rfl
  ·rw [hb4]; try simp only [hb4, bb] at hL_1
   refine WK.condF rfl ?_
   refine WK.skip ?_
   refine WK.nil (QF.normal (hK3 _ ?_))
   refine WK.regx mixed ?_
   refine GX.pure (v' := .int .i64 ((i8 + 1 : Nat) : Int)) rfl rfl rfl rfl (congrArg (PVal.int .i64) (wrap_up hlt1 hlen_1)) ?_
   refine GX.m rfl ?_
   refine GX.done ?_
   refine WK.nil (QF.normal ?_)
   refine hagain_1 _ (vals0.length - (i8 + 1)) _ (by first | (omega; trace "@@33 8faa9244a801a635 1 0") | (((try simp only [List.length_append, List.length_cons, List.length_nil, decide_eq_true_eq, decide_eq_false_iff_not] at *) <;> first | omega | (rw [wrap64_of (by omega) (by omega)]; omega)); trace "@@33 8faa9244a801a635 1 1") | ((unfold min_; split <;> omega); trace "@@33 8faa9244a801a635 1 2")) ?_ ⟨i8 + 1, (by first | (omega; trace "@@33 8faa9244a801a635 2 0") | (((try simp only [List.length_append, List.length_cons, List.length_nil, decide_eq_true_eq, decide_eq_false_iff_not] at *) <;> first | omega | (rw [wrap64_of (by omega) (by omega)]; omega)); trace "@@33 8faa9244a801a635 2 1") | ((unfold min_; split <;> omega); trace "@@33 8faa9244a801a635 2 2")), rfl, hL_1, rfl⟩
   exact Conv.keep [] [] [3, 6, 7, 8] rfl rfl (viewE_cons rfl rfl (viewE_cons rfl rfl (viewE_cons rfl rfl (viewE_cons rfl rfl viewE_nil)))) rfl rfl
theorem f49_ok (x0 : Int) (R : Bool) (hR : F49_cmp_isNaN x0 = R) : FnOk Tryd.prog 49 [.int .i64 x0] [] 0 (.bool R) [] 0 := by
 refine FnOk.wk i49 rfl rfl ?_
 unfold F49_cmp_isNaN at hR
 change WK _ _ _ [ac49] _ ⟨[(0, .int .i64 x0)], [], 0⟩
 unfold ac49
 refine WK.sr mixed ?_
 refine GX.m rfl ?_
 refine GX.done ?_
 refine WK.sr mixed ?_
 refine GX.m rfl ?_
 refine GX.m rfl ?_
 refine GX.q (.bool (!decide (x0 = x0))) ?_
 refine GX.m rfl ?_
 refine GX.done ?_
 refine WK.ret ?_
 subst hR
 exact RetQ.fr [] (.inr rfl) rfl rfl rfl rfl
theorem f34_ok (x0 : Int) (y1 : Int) (R : Int) (hR : F34_cmp_Compare x0 y1 = R) : FnOk Tryd.prog 34 [.int .i64 x0, .int .i64 y1] [] 0 (.int .i64 R) [] 0 := by
 refine FnOk.wk i34 rfl rfl ?_
 unfold F34_cmp_Compare at hR
 change WK _ _ _ [ac34] _ ⟨[(0, .int .i64 x0), (1, .int .i64 y1)], [], 0⟩
 unfold ac34
 refine WK.sr mixed ?_
 refine GX.m rfl ?_
 refine GX.done ?_
 refine WK.sr mixed ?_
 refine GX.m rfl ?_
 generalize hc8 : F49_cmp_isNaN x0 = c8 at hR
 try dsimp only at hR
 refine GX.callp (r := .bool c8) rfl rfl rfl (f49_ok x0 _ hc8) rfl rfl ?_
 refine GX.m rfl ?_
 refine GX.done ?_
 refine WK.sr mixed ?_
 refine GX.m rfl ?_
 generalize hc10 : F49_cmp_isNaN y1 = c10 at hR
 try dsimp only at hR
 refine GX.callp (r := .bool c10) rfl rfl rfl (f49_ok y1 _ hc10) rfl rfl ?_
 refine GX.m rfl ?_
 refine GX.done ?_
 refine WK.seq ?_
 refine WK.sr mixed ?_
 refine GX.m rfl ?_
 refine GX.done ?_
 rcases bool_two (c8) with hb1 | hb1
 ·rw [hb1]; try simp only [hb1, bb] at hR
  refine WK.condF rfl ?_
  refine WK.skip ?_
  refine WK.seq ?_
  refine WK.sr mixed ?_
  refine GX.m rfl ?_
  refine GX.done ?_
  rcases bool_two (c10) with hb2 | hb2
  ·rw [hb2]; try simp only [hb2, bb] at hR
   refine WK.condF rfl ?_
   refine WK.skip ?_
   refine WK.seq ?_
   refine WK.sr mixed ?_
   refine GX.m rfl ?_
   refine GX.m rfl ?_
   refine GX.q (.bool (decide (x0 < y1))) ?_
   refine GX.done ?_
   rcases bool_two (decide (x0 < y1)) with hb3 | hb3
   ·rw [hb3]; try simp only [hb3, bb] at hR
    refine WK.condF rfl ?_
    refine WK.skip ?_
    refine WK.seq ?_
    refine WK.sr mixed ?_
    refine GX.m rfl ?_
    refine GX.m rfl ?_
    refine GX.q (.bool (decide (y1 < x0))) ?_
    refine GX.done ?_
    rcases bool_two (decide (y1 < x0)) with hb4 | hb4
    ·rw [hb4]; try simp only [hb4, bb] at hR
     refine WK.condF rfl ?_
     refine WK.skip ?_
     refine WK.sr mixed ?_
     refine GX.m rfl ?_
     refine GX.done ?_
     refine WK.ret ?_
     subst hR
     exact RetQ.fr [] (.inr rfl) rfl rfl rfl rfl
    ·rw [hb4]; try simp only [hb4, bb] at hR
     refine WK.condT rfl ?_
     refine WK.sr mixed ?_
     refine GX.m rfl ?_
     refine GX.done ?_
     refine WK.ret ?_
     subst hR
     exact RetQ.fr [] (.inr rfl) rfl rfl rfl rfl
   ·rw [hb3]; try simp only [hb3, bb] at hR
    refine WK.condT rfl ?_
    refine WK.sr mixed ?_
    refine GX.m rfl ?_
    refine GX.done ?_
    refine WK.ret ?_
    subst hR
    exact RetQ.fr [] (.inr rfl) rfl rfl rfl rfl
  ·rw [hb2]; try simp only [hb2, bb] at hR
   refine WK.condT rfl ?_
   refine WK.sr mixed ?_
   refine GX.m rfl ?_
   refine GX.done ?_
   refine WK.ret ?_
   subst hR
   exact RetQ.fr [] (.inr rfl) rfl rfl rfl rfl
 ·rw [hb1]; try simp only [hb1, bb] at hR
  refine WK.condT rfl ?_
  refine WK.seq ?_
  refine WK.sr mixed ?_
  refine GX.m rfl ?_
  refine GX.done ?_
  rcases bool_two (c10) with hb5 | hb5
  ·rw [hb5]; try simp only [hb5, bb] at hR
   refine WK.condF rfl ?_
   refine WK.skip ?_
   refine WK.sr mixed ?_
   refine GX.m rfl ?_
   refine GX.done ?_
   refine WK.ret ?_
   subst hR
   exact RetQ.fr [] (.inr rfl) rfl rfl rfl rfl
  ·rw [hb5]; try simp only [hb5, bb] at hR
   refine WK.condT rfl ?_
   refine WK.sr mixed ?_
   refine GX.m rfl ?_
   refine GX.done ?_
   refine WK.ret ?_
   subst hR
   exact RetQ.fr [] (.inr rfl) rfl rfl rfl rfl
theorem f50_ok (x0 : Int) (R : Bool) (hR : F50_cmp_isNaN x0 = R) : FnOk Tryd.prog 50 [.int .u32 x0] [] 0 (.bool R) [] 0 := by
 refine FnOk.wk i50 rfl rfl ?_
 unfold F50_cmp_isNaN at hR
 change WK _ _ _ [ac50] _ ⟨[(0, .int .u32 x0)], [], 0⟩
 unfold ac50
 refine WK.sr mixed ?_
 refine GX.m rfl ?_
 refine GX.done ?_
 refine WK.sr mixed ?_
 refine GX.m rfl ?_
 refine GX.m rfl ?_
 refine GX.q (.bool (!decide (x0 = x0))) ?_
 refine GX.m rfl ?_
 refine GX.done ?_
 refine WK.ret ?_
 subst hR
 exact RetQ.fr [] (.inr rfl) rfl rfl rfl rfl
theorem f35_ok (x0 : Int) (y1 : Int) (R : Int) (hR : F35_cmp_Compare x0 y1 = R) : FnOk Tryd.prog 35 [.int .u32 x0, .int .u32 y1] [] 0 (.int .i64 R) [] 0 := by
 refine FnOk.wk i35 rfl rfl ?_
 unfold F35_cmp_Compare at hR
 change WK _ _ _ [ac35] _ ⟨[(0, .int .u32 x0), (1, .int .u32 y1)], [], 0⟩
 unfold ac35
 refine WK.sr mixed ?_
 refine GX.m rfl ?_
 refine GX.done ?_
 refine WK.sr mixed ?_
 refine GX.m rfl ?_
 generalize hc8 : F50_cmp_isNaN x0 = c8 at hR
 try dsimp only at hR
 refine GX.callp (r := .bool c8) rfl rfl rfl (f50_ok x0 _ hc8) rfl rfl ?_
 refine GX.m rfl ?_
 refine GX.done ?_
 refine WK.sr mixed ?_
 refine GX.m rfl ?_
 generalize hc10 : F50_cmp_isNaN y1 = c10 at hR
 try dsimp only at hR
 refine GX.callp (r := .bool c10) rfl rfl rfl (f50_ok y1 _ hc10) rfl rfl ?_
 refine GX.m rfl ?_
 refine GX.done ?_
 refine WK.seq ?_
 refine WK.sr mixed ?_
 refine GX.m rfl ?_
 refine GX.done ?_
 rcases bool_two (c8) with hb1 | hb1
 ·rw [hb1]; try simp only [hb1, bb] at hR
  refine WK.condF rfl ?_
  refine WK.skip ?_
  refine WK.seq ?_
  refine WK.sr mixed ?_
  refine GX.m rfl ?_
  refine GX.done ?_
  rcases bool_two (c10) with hb2 | hb2
  ·rw [hb2]; try simp only [hb2, bb] at hR
   refine WK.condF rfl ?_
   refine WK.skip ?_
   refine WK.seq ?_
   refine WK.sr mixed ?_
   refine GX.m rfl ?_
   refine GX.m rfl ?_
   refine GX.q (.bool (decide (x0 < y1))) ?_
   refine GX.done ?_
   rcases bool_two (decide (x0 < y1)) with hb3 | hb3
   ·rw [hb3]; try simp only [hb3, bb] at hR
    refine WK.condF rfl ?_
    refine WK.skip ?_
    refine WK.seq ?_
    refine WK.sr mixed ?_
    refine GX.m rfl ?_
    refine GX.m rfl ?_
    refine GX.q (.bool (decide (y1 < x0))) ?_
    refine GX.done ?_
    rcases bool_two (decide (y1 < x0)) with hb4 | hb4
    ·rw [hb4]; try simp only [hb4, bb] at hR
     refine WK.condF rfl ?_
     refine WK.skip ?_
     refine WK.sr mixed ?_
     refine GX.m rfl ?_
     refine GX.done ?_
     refine WK.ret ?_
     subst hR
     exact RetQ.fr [] (.inr rfl) rfl rfl rfl rfl
    ·rw [hb4]; try simp only [hb4, bb] at hR
     refine WK.condT rfl ?_
     refine WK.sr mixed ?_
     refine GX.m rfl ?_
     refine GX.done ?_
     refine WK.ret ?_
     subst hR
     exact RetQ.fr [] (.inr rfl) rfl rfl rfl rfl
   ·rw [hb3]; try simp only [hb3, bb] at hR
    refine WK.condT rfl ?_
    refine WK.sr mixed ?_
    refine GX.m rfl ?_
    refine GX.done ?_
    refine WK.ret ?_
    subst hR
    exact RetQ.fr [] (.inr rfl) rfl rfl rfl rfl
  ·rw [hb2]; try simp only [hb2, bb] at hR
   refine WK.condT rfl ?_
   refine WK.sr mixed ?_
   refine GX.m rfl ?_
   refine GX.done ?_
   refine WK.ret ?_
   subst hR
   exact RetQ.fr [] (.inr rfl) rfl rfl rfl rfl
 ·rw [hb1]; try simp only [hb1, bb] at hR
  refine WK.condT rfl ?_
  refine WK.seq ?_
  refine WK.sr mixed ?_
  refine GX.m rfl ?_
  refine GX.done ?_
  rcases bool_two (c10) with hb5 | hb5
  ·rw [hb5]; try simp only [hb5, bb] at hR
   refine WK.condF rfl ?_
   refine WK.skip ?_
   refine WK.sr mixed ?_
   refine GX.m rfl ?_
   refine GX.done ?_
   refine WK.ret ?_
   subst hR
   exact RetQ.fr [] (.inr rfl) rfl rfl rfl rfl
  ·rw [hb5]; try simp only [hb5, bb] at hR
   refine WK.condT rfl ?_
   refine WK.sr mixed ?_
   refine GX.m rfl ?_
   refine GX.done ?_
   refine WK.ret ?_
   subst hR
   exact RetQ.fr [] (.inr rfl) rfl rfl rfl rfl
theorem f32_ok (a0 : THop) (b1 : THop) (R : Int) (hR : F32_fib_order_1 a0 b1 = R) : FnOk Tryd.prog 32 [.agg (THop.c a0), .agg (THop.c b1)] [] 0 (.int .i64 R) [] 0 := by
 refine FnOk.wk i32 rfl rfl ?_
 unfold F32_fib_order_1 at hR
 change WK _ _ _ [ac32] _ ⟨[(0, .agg (THop.c a0)), (1, .agg (THop.c b1))], [], 0⟩
 unfold ac32
 refine WK.sr mixed ?_
 refine GX.step (v' := .ptr 0 0) (heap' := [(0, .box (THop.c a0))]) (next' := 1) rfl rfl rfl rfl rfl rfl rfl ?_
 refine GX.step (v' := .ptr 1 0) (heap' := [(0, .box (THop.c a0)), (1, .box (THop.c b1))]) (next' := 2) rfl rfl rfl rfl rfl rfl rfl ?_
 refine GX.m rfl ?_
 refine GX.done ?_
 refine WK.seq ?_
 refine WK.drawn mixed ?_
 refine RD.q (.ptr 0 0) ?_
 refine RD.q (.int .i64 a0.Iface) ?_
 refine RD.q (.ptr 1 0) ?_
 refine RD.q (.int .i64 b1.Iface) ?_
 generalize hc9 : F34_cmp_Compare a0.Iface b1.Iface = c9 at hR
 try dsimp only at hR
 refine RD.callp (r := .int .i64 c9) rfl rfl rfl (f34_ok a0.Iface b1.Iface _ hc9) rfl rfl ?_
 refine RD.q (.ptr 0 1) ?_
 refine RD.q (.int .u32 a0.Gate) ?_
 refine RD.q (.ptr 1 1) ?_
 refine RD.q (.int .u32 b1.Gate) ?_
 generalize hc14 : F35_cmp_Compare a0.Gate b1.Gate = c14 at hR
 try dsimp only at hR
 refine RD.callp (r := .int .i64 c14) rfl rfl rfl (f35_ok a0.Gate b1.Gate _ hc14) rfl rfl ?_
 refine RD.step (v' := .own 2 1 0 (([c9, c14] : List Int)).length) (heap' := [(0, .box (THop.c a0)), (1, .box (THop.c b1)), (2, .row 1 3 (([c9, c14] : List Int).map c_i64))]) (next' := 3) rfl rfl rfl rfl rfl rfl rfl ?_
 generalize hc16 : F33_cmp_Or ([c9, c14] : List Int) = c16 at hR
 try dsimp only at hR
 refine RD.callbp (r := .int .i64 c16) [2] rfl rfl rfl (viewGo_cons (view_rowT rfl rfl) viewGo_nil) (f33_ok ([c9, c14] : List Int) _ hc16) rfl rfl ?_
 refine RD.m rfl ?_
 refine RD.done rfl ?_
 refine WK.ret ?_
 subst hR
 exact RetQ.fr [] (.inr rfl) rfl rfl rfl rfl
end Go.Proofs.YtakallenldpkiaaDoor.Abs
