/- The functions walked: each computes its Lean function (printed by this work's own program gen.py). -/
import Derived.Test.YtjcpkgnlnmajjaaGreatDoorSb
set_option linter.unusedVariables false
set_option linter.unusedSimpArgs false
set_option maxRecDepth 10000
set_option maxHeartbeats 4000000
namespace Go.Proofs.YtjcpkgnlnmajjaaGreatDoor.Abs
open Go

theorem f67_ok (n0 : Int) (R : Bool) (hR : F67_addr_isLong n0 = R) : FnOk Tryz.prog 67 [.int .i64 n0] [] 0 (.bool R) [] 0 := by
 refine FnOk.wk i67 rfl rfl ?_
 unfold F67_addr_isLong at hR
 change WK _ _ _ [ac67] _ ⟨[(0, .int .i64 n0)], [], 0⟩
 unfold ac67
 refine WK.sr mixed ?_
 refine GX.m rfl ?_
 refine GX.done ?_
 refine WK.sr mixed ?_
 refine GX.m rfl ?_
 refine GX.q (.bool (decide (0 ≤ n0))) ?_
 refine GX.m rfl ?_
 rcases bool_two (decide (0 ≤ n0)) with hb1 | hb1
 ·rw [hb1]; try simp only [hb1, bb] at hR
  iterate 2 refine GX.skip rfl rfl ?_
  refine GX.q (.bool false) ?_
  refine GX.m rfl ?_
  refine GX.done ?_
  refine WK.ret ?_
  subst hR
  exact RetQ.fr [] (.inr rfl) rfl rfl rfl rfl
 ·rw [hb1]; try simp only [hb1, bb] at hR
  refine GX.m rfl ?_
  iterate 2 refine GX.q (.bool (decide (n0 ≤ 32))) ?_
  refine GX.m rfl ?_
  refine GX.done ?_
  refine WK.ret ?_
  subst hR
  exact RetQ.fr [] (.inr rfl) rfl rfl rfl rfl

theorem f68_ok (n0 : Int) (R : Int) (hR : F68_addr_Mask n0 = R) : FnOk Tryz.prog 68 [.int .i64 n0] [] 0 (.int .u32 R) [] 0 := by
 refine FnOk.wk i68 rfl rfl ?_
 unfold F68_addr_Mask at hR
 change WK _ _ _ [ac68] _ ⟨[(0, .int .i64 n0)], [], 0⟩
 unfold ac68
 refine WK.sr mixed ?_
 refine GX.m rfl ?_
 refine GX.done ?_
 refine WK.sr mixed ?_
 refine GX.m rfl ?_
 refine GX.q (.int .i64 (max_ n0 0)) ?_
 refine GX.q (.int .i64 (min_ (max_ n0 0) 32)) ?_
 refine GX.m rfl ?_
 refine GX.done ?_
 refine WK.sr mixed ?_
 refine GX.m rfl ?_
 refine GX.q (.int .i64 (IntKind.i64.wrap (32 - (min_ (max_ n0 0) 32)))) ?_
 refine GX.shl rfl rfl rfl (by ((try simp only [decide_eq_true_eq, decide_eq_false_iff_not, Bool.not_eq_true, Bool.not_eq_false] at *); first | omega | (rw [wrap64_of (by omega) (by omega)]; omega) | (unfold min_ max_; (repeat' split) <;> first | omega | (rw [wrap64_of (by omega) (by omega)]; omega)))) ?_
 refine GX.q (.int .u32 (IntKind.u32.wrap (shl_ .u64 4294967295 (IntKind.i64.wrap (32 - (min_ (max_ n0 0) 32)))))) ?_
 refine GX.m rfl ?_
 refine GX.done ?_
 refine WK.ret ?_
 subst hR
 exact RetQ.fr [] (.inr rfl) rfl rfl rfl rfl

theorem f37_ok (p0 : TPrefix) (R : Bool) (hR : F37_addr_May p0 = R) : FnOk Tryz.prog 37 [.agg (TPrefix.c p0)] [] 0 (.bool R) [] 0 := by
 refine FnOk.wk i37 rfl rfl ?_
 unfold F37_addr_May at hR
 change WK _ _ _ [ac37] _ ⟨[(0, .agg (TPrefix.c p0))], [], 0⟩
 unfold ac37
 refine WK.sr mixed ?_
 refine GX.step (v' := .ptr 0 0) (heap' := [(0, .box (TPrefix.c p0))]) (next' := 1) rfl rfl rfl rfl rfl rfl rfl ?_
 refine GX.m rfl ?_
 refine GX.done ?_
 refine WK.seq ?_
 refine WK.drawn mixed ?_
 refine RD.q (.ptr 0 1) ?_
 refine RD.q (.int .i64 p0.N) ?_
 generalize hc5 : F67_addr_isLong p0.N = c5 at hR
 try dsimp only at hR
 refine RD.callp (r := .bool c5) rfl rfl rfl (f67_ok p0.N _ hc5) rfl rfl ?_
 refine RD.m rfl ?_
 rcases bool_two (c5) with hb1 | hb1
 ·rw [hb1]; try simp only [hb1, bb] at hR
  iterate 7 refine RD.skip rfl rfl ?_
  refine RD.q (.bool false) ?_
  refine RD.m rfl ?_
  refine RD.done rfl ?_
  refine WK.ret ?_
  subst hR
  exact RetQ.fr [] (.inr rfl) rfl rfl rfl rfl
 ·rw [hb1]; try simp only [hb1, bb] at hR
  refine RD.q (.ptr 0 0) ?_
  refine RD.q (.int .u32 p0.A) ?_
  refine RD.q (.ptr 0 1) ?_
  refine RD.q (.int .i64 p0.N) ?_
  generalize hc11 : F68_addr_Mask p0.N = c11 at hR
  try dsimp only at hR
  refine RD.callp (r := .int .u32 c11) rfl rfl rfl (f68_ok p0.N _ hc11) rfl rfl ?_
  refine RD.q (.int .u32 (bit_andNot .u32 p0.A c11)) ?_
  iterate 2 refine RD.q (.bool (decide (bit_andNot .u32 p0.A c11 = 0))) ?_
  refine RD.m rfl ?_
  refine RD.done rfl ?_
  refine WK.ret ?_
  subst hR
  exact RetQ.fr [] (.inr rfl) rfl rfl rfl rfl

theorem f10_ok (x0 : TRule) (R : Bool) (hR : F10_plist_May x0 = R) : FnOk Tryz.prog 10 [.agg (TRule.c x0)] [] 0 (.bool R) [] 0 := by
 refine FnOk.wk i10 rfl rfl ?_
 unfold F10_plist_May at hR
 change WK _ _ _ [ac10] _ ⟨[(0, .agg (TRule.c x0))], [], 0⟩
 unfold ac10
 refine WK.sr mixed ?_
 refine GX.step (v' := .ptr 0 0) (heap' := [(0, .box (TRule.c x0))]) (next' := 1) rfl rfl rfl rfl rfl rfl rfl ?_
 refine GX.m rfl ?_
 refine GX.done ?_
 refine WK.seq ?_
 refine WK.sr mixed ?_
 refine GX.q (.ptr 0 0) ?_
 refine GX.q (.int .i64 x0.Seq) ?_
 refine GX.q (.bool (decide (x0.Seq < 1))) ?_
 refine GX.m rfl ?_
 rcases bool_two (decide (x0.Seq < 1)) with hb1 | hb1
 ·rw [hb1]; try simp only [hb1, bb] at hR
  refine GX.q (.ptr 0 0) ?_
  refine GX.q (.int .i64 x0.Seq) ?_
  iterate 2 refine GX.q (.bool (decide (65535 < x0.Seq))) ?_
  refine GX.m rfl ?_
  rcases bool_two (decide (65535 < x0.Seq)) with hb2 | hb2
  ·rw [hb2]; try simp only [hb2, bb] at hR
   refine GX.q (.ptr 0 2) ?_
   refine GX.q (.agg [.int .u32 x0.P.A, .int .i64 x0.P.N]) ?_
   generalize hc16 : F37_addr_May x0.P = c16 at hR
   try dsimp only at hR
   refine GX.callp (r := .bool c16) rfl rfl rfl (f37_ok x0.P _ hc16) rfl rfl ?_
   iterate 2 refine GX.q (.bool (!c16)) ?_
   refine GX.done ?_
   rcases bool_two (c16) with hb3 | hb3
   ·rw [hb3]; try simp only [hb3, bb] at hR
    refine WK.condT rfl ?_
    refine WK.sr mixed ?_
    refine GX.m rfl ?_
    refine GX.done ?_
    refine WK.ret ?_
    subst hR
    exact RetQ.fr [] (.inr rfl) rfl rfl rfl rfl
   ·rw [hb3]; try simp only [hb3, bb] at hR
    refine WK.condF rfl ?_
    refine WK.skip ?_
    refine WK.sr mixed ?_
    refine GX.q (.ptr 0 4) ?_
    refine GX.q (.int .i64 x0.Ge) ?_
    refine GX.q (.bool (decide (x0.Ge = 0))) ?_
    refine GX.m rfl ?_
    rcases bool_two (decide (x0.Ge = 0)) with hb4 | hb4
    ·rw [hb4]; try simp only [hb4, bb] at hR
     refine GX.q (.ptr 0 4) ?_
     refine GX.q (.int .i64 x0.Ge) ?_
     refine GX.q (.ptr 0 2) ?_
     refine GX.q (.ptr 0 3) ?_
     refine GX.q (.int .i64 x0.P.N) ?_
     refine GX.q (.bool (decide (x0.P.N < x0.Ge))) ?_
     refine GX.m rfl ?_
     rcases bool_two (decide (x0.P.N < x0.Ge)) with hb5 | hb5
     ·rw [hb5]; try simp only [hb5, bb] at hR
      iterate 3 refine GX.skip rfl rfl ?_
      iterate 2 refine GX.q (.bool false) ?_
      refine GX.m rfl ?_
      refine GX.done ?_
      refine WK.sr mixed ?_
      refine GX.q (.ptr 0 5) ?_
      refine GX.q (.int .i64 x0.Le) ?_
      refine GX.q (.bool (decide (x0.Le = 0))) ?_
      refine GX.m rfl ?_
      rcases bool_two (decide (x0.Le = 0)) with hb6 | hb6
      ·rw [hb6]; try simp only [hb6, bb] at hR
       refine GX.q (.ptr 0 5) ?_
       refine GX.q (.int .i64 x0.Le) ?_
       refine GX.q (.ptr 0 4) ?_
       refine GX.q (.int .i64 x0.Ge) ?_
       refine GX.q (.ptr 0 2) ?_
       refine GX.q (.ptr 0 3) ?_
       refine GX.q (.int .i64 x0.P.N) ?_
       refine GX.q (.int .i64 (max_ x0.Ge x0.P.N)) ?_
       refine GX.q (.bool (decide (max_ x0.Ge x0.P.N ≤ x0.Le))) ?_
       refine GX.m rfl ?_
       rcases bool_two (decide (max_ x0.Ge x0.P.N ≤ x0.Le)) with hb7 | hb7
       ·rw [hb7]; try simp only [hb7, bb] at hR
        iterate 3 refine GX.skip rfl rfl ?_
        iterate 2 refine GX.q (.bool false) ?_
        refine GX.m rfl ?_
        refine GX.done ?_
        refine WK.sr mixed ?_
        iterate 2 refine GX.m rfl ?_
        refine GX.skip rfl rfl ?_
        refine GX.q (.bool false) ?_
        refine GX.m rfl ?_
        refine GX.done ?_
        refine WK.ret ?_
        subst hR
        exact RetQ.fr [] (.inr rfl) rfl rfl rfl rfl
       ·rw [hb7]; try simp only [hb7, bb] at hR
        refine GX.q (.ptr 0 5) ?_
        refine GX.q (.int .i64 x0.Le) ?_
        iterate 3 refine GX.q (.bool (decide (x0.Le ≤ 32))) ?_
        refine GX.m rfl ?_
        refine GX.done ?_
        refine WK.sr mixed ?_
        iterate 2 refine GX.m rfl ?_
        refine GX.skip rfl rfl ?_
        refine GX.q (.bool false) ?_
        refine GX.m rfl ?_
        refine GX.done ?_
        refine WK.ret ?_
        subst hR
        exact RetQ.fr [] (.inr rfl) rfl rfl rfl rfl
      ·rw [hb6]; try simp only [hb6, bb] at hR
       iterate 14 refine GX.skip rfl rfl ?_
       refine GX.q (.bool true) ?_
       refine GX.m rfl ?_
       refine GX.done ?_
       refine WK.sr mixed ?_
       iterate 2 refine GX.m rfl ?_
       refine GX.skip rfl rfl ?_
       refine GX.q (.bool false) ?_
       refine GX.m rfl ?_
       refine GX.done ?_
       refine WK.ret ?_
       subst hR
       exact RetQ.fr [] (.inr rfl) rfl rfl rfl rfl
     ·rw [hb5]; try simp only [hb5, bb] at hR
      refine GX.q (.ptr 0 4) ?_
      refine GX.q (.int .i64 x0.Ge) ?_
      iterate 3 refine GX.q (.bool (decide (x0.Ge ≤ 32))) ?_
      refine GX.m rfl ?_
      refine GX.done ?_
      refine WK.sr mixed ?_
      refine GX.q (.ptr 0 5) ?_
      refine GX.q (.int .i64 x0.Le) ?_
      refine GX.q (.bool (decide (x0.Le = 0))) ?_
      refine GX.m rfl ?_
      rcases bool_two (decide (x0.Le = 0)) with hb8 | hb8
      ·rw [hb8]; try simp only [hb8, bb] at hR
       refine GX.q (.ptr 0 5) ?_
       refine GX.q (.int .i64 x0.Le) ?_
       refine GX.q (.ptr 0 4) ?_
       refine GX.q (.int .i64 x0.Ge) ?_
       refine GX.q (.ptr 0 2) ?_
       refine GX.q (.ptr 0 3) ?_
       refine GX.q (.int .i64 x0.P.N) ?_
       refine GX.q (.int .i64 (max_ x0.Ge x0.P.N)) ?_
       refine GX.q (.bool (decide (max_ x0.Ge x0.P.N ≤ x0.Le))) ?_
       refine GX.m rfl ?_
       rcases bool_two (decide (max_ x0.Ge x0.P.N ≤ x0.Le)) with hb9 | hb9
       ·rw [hb9]; try simp only [hb9, bb] at hR
        iterate 3 refine GX.skip rfl rfl ?_
        iterate 2 refine GX.q (.bool false) ?_
        refine GX.m rfl ?_
        refine GX.done ?_
        refine WK.sr mixed ?_
        iterate 2 refine GX.m rfl ?_
        rcases bool_two (decide (x0.Ge ≤ 32)) with hb10 | hb10
        ·rw [hb10]; try simp only [hb10, bb] at hR
         refine GX.skip rfl rfl ?_
         refine GX.q (.bool false) ?_
         refine GX.m rfl ?_
         refine GX.done ?_
         refine WK.ret ?_
         subst hR
         exact RetQ.fr [] (.inr rfl) rfl rfl rfl rfl
        ·rw [hb10]; try simp only [hb10, bb] at hR
         refine GX.m rfl ?_
         refine GX.q (.bool false) ?_
         refine GX.m rfl ?_
         refine GX.done ?_
         refine WK.ret ?_
         subst hR
         exact RetQ.fr [] (.inr rfl) rfl rfl rfl rfl
       ·rw [hb9]; try simp only [hb9, bb] at hR
        refine GX.q (.ptr 0 5) ?_
        refine GX.q (.int .i64 x0.Le) ?_
        iterate 3 refine GX.q (.bool (decide (x0.Le ≤ 32))) ?_
        refine GX.m rfl ?_
        refine GX.done ?_
        refine WK.sr mixed ?_
        iterate 2 refine GX.m rfl ?_
        rcases bool_two (decide (x0.Ge ≤ 32)) with hb11 | hb11
        ·rw [hb11]; try simp only [hb11, bb] at hR
         refine GX.skip rfl rfl ?_
         refine GX.q (.bool false) ?_
         refine GX.m rfl ?_
         refine GX.done ?_
         refine WK.ret ?_
         subst hR
         exact RetQ.fr [] (.inr rfl) rfl rfl rfl rfl
        ·rw [hb11]; try simp only [hb11, bb] at hR
         refine GX.m rfl ?_
         refine GX.q (.bool (decide (x0.Le ≤ 32))) ?_
         refine GX.m rfl ?_
         refine GX.done ?_
         refine WK.ret ?_
         subst hR
         exact RetQ.fr [] (.inr rfl) rfl rfl rfl rfl
      ·rw [hb8]; try simp only [hb8, bb] at hR
       iterate 14 refine GX.skip rfl rfl ?_
       refine GX.q (.bool true) ?_
       refine GX.m rfl ?_
       refine GX.done ?_
       refine WK.sr mixed ?_
       iterate 2 refine GX.m rfl ?_
       rcases bool_two (decide (x0.Ge ≤ 32)) with hb12 | hb12
       ·rw [hb12]; try simp only [hb12, bb] at hR
        refine GX.skip rfl rfl ?_
        refine GX.q (.bool false) ?_
        refine GX.m rfl ?_
        refine GX.done ?_
        refine WK.ret ?_
        subst hR
        exact RetQ.fr [] (.inr rfl) rfl rfl rfl rfl
       ·rw [hb12]; try simp only [hb12, bb] at hR
        refine GX.m rfl ?_
        refine GX.q (.bool true) ?_
        refine GX.m rfl ?_
        refine GX.done ?_
        refine WK.ret ?_
        subst hR
        exact RetQ.fr [] (.inr rfl) rfl rfl rfl rfl
    ·rw [hb4]; try simp only [hb4, bb] at hR
     iterate 11 refine GX.skip rfl rfl ?_
     refine GX.q (.bool true) ?_
     refine GX.m rfl ?_
     refine GX.done ?_
     refine WK.sr mixed ?_
     refine GX.q (.ptr 0 5) ?_
     refine GX.q (.int .i64 x0.Le) ?_
     refine GX.q (.bool (decide (x0.Le = 0))) ?_
     refine GX.m rfl ?_
     rcases bool_two (decide (x0.Le = 0)) with hb13 | hb13
     ·rw [hb13]; try simp only [hb13, bb] at hR
      refine GX.q (.ptr 0 5) ?_
      refine GX.q (.int .i64 x0.Le) ?_
      refine GX.q (.ptr 0 4) ?_
      refine GX.q (.int .i64 x0.Ge) ?_
      refine GX.q (.ptr 0 2) ?_
      refine GX.q (.ptr 0 3) ?_
      refine GX.q (.int .i64 x0.P.N) ?_
      refine GX.q (.int .i64 (max_ x0.Ge x0.P.N)) ?_
      refine GX.q (.bool (decide (max_ x0.Ge x0.P.N ≤ x0.Le))) ?_
      refine GX.m rfl ?_
      rcases bool_two (decide (max_ x0.Ge x0.P.N ≤ x0.Le)) with hb14 | hb14
      ·rw [hb14]; try simp only [hb14, bb] at hR
       iterate 3 refine GX.skip rfl rfl ?_
       iterate 2 refine GX.q (.bool false) ?_
       refine GX.m rfl ?_
       refine GX.done ?_
       refine WK.sr mixed ?_
       iterate 3 refine GX.m rfl ?_
       refine GX.q (.bool false) ?_
       refine GX.m rfl ?_
       refine GX.done ?_
       refine WK.ret ?_
       subst hR
       exact RetQ.fr [] (.inr rfl) rfl rfl rfl rfl
      ·rw [hb14]; try simp only [hb14, bb] at hR
       refine GX.q (.ptr 0 5) ?_
       refine GX.q (.int .i64 x0.Le) ?_
       iterate 3 refine GX.q (.bool (decide (x0.Le ≤ 32))) ?_
       refine GX.m rfl ?_
       refine GX.done ?_
       refine WK.sr mixed ?_
       iterate 3 refine GX.m rfl ?_
       refine GX.q (.bool (decide (x0.Le ≤ 32))) ?_
       refine GX.m rfl ?_
       refine GX.done ?_
       refine WK.ret ?_
       subst hR
       exact RetQ.fr [] (.inr rfl) rfl rfl rfl rfl
     ·rw [hb13]; try simp only [hb13, bb] at hR
      iterate 14 refine GX.skip rfl rfl ?_
      refine GX.q (.bool true) ?_
      refine GX.m rfl ?_
      refine GX.done ?_
      refine WK.sr mixed ?_
      iterate 3 refine GX.m rfl ?_
      refine GX.q (.bool true) ?_
      refine GX.m rfl ?_
      refine GX.done ?_
      refine WK.ret ?_
      subst hR
      exact RetQ.fr [] (.inr rfl) rfl rfl rfl rfl
  ·rw [hb2]; try simp only [hb2, bb] at hR
   iterate 4 refine GX.skip rfl rfl ?_
   refine GX.q (.bool true) ?_
   refine GX.done ?_
   refine WK.condT rfl ?_
   refine WK.sr mixed ?_
   refine GX.m rfl ?_
   refine GX.done ?_
   refine WK.ret ?_
   subst hR
   exact RetQ.fr [] (.inr rfl) rfl rfl rfl rfl
 ·rw [hb1]; try simp only [hb1, bb] at hR
  iterate 3 refine GX.skip rfl rfl ?_
  refine GX.q (.bool true) ?_
  refine GX.m rfl ?_
  iterate 4 refine GX.skip rfl rfl ?_
  refine GX.q (.bool true) ?_
  refine GX.done ?_
  refine WK.condT rfl ?_
  refine WK.sr mixed ?_
  refine GX.m rfl ?_
  refine GX.done ?_
  refine WK.ret ?_
  subst hR
  exact RetQ.fr [] (.inr rfl) rfl rfl rfl rfl

theorem f31_ok (s0 : ByteArray) (R : Int) (hR : F31_plist_number s0 = some R) : FnOk Tryz.prog 31 [.str s0] [] 0 (.int .i64 R) [] 0 := by
 refine FnOk.wk i31 rfl rfl ?_
 unfold F31_plist_number at hR
 try dsimp only at hR
 change WK _ _ _ [ac31] _ ⟨[(0, .str s0)], [], 0⟩
 unfold ac31
 refine WK.sr mixed ?_
 refine GX.m rfl ?_
 refine GX.done ?_
 refine WK.seq ?_
 refine WK.sr mixed ?_
 refine GX.m rfl ?_
 refine GX.q (.bool (s0.toList == (bstr []).toList)) ?_
 refine GX.m rfl ?_
 rcases bool_two ((s0.toList == (bstr []).toList)) with hb1 | hb1
 ·rw [hb1]; try simp only [hb1, bb] at hR
  refine GX.m rfl ?_
  refine GX.q (.int .i64 (s0.size : Int)) ?_
  iterate 2 refine GX.q (.bool (decide (5 < (s0.size : Int)))) ?_
  refine GX.m rfl ?_
  rcases bool_two (decide (5 < (s0.size : Int))) with hb2 | hb2
  ·rw [hb2]; first | replace hR := cond_f hb2 hR | (try simp only [hb2, bb] at hR)
   refine GX.m rfl ?_
   rcases bool_two (decide ((0 : Int) < (s0.size : Int))) with hg3 | hg3
   ·simp only [hg3, bb] at hR
    try dsimp only at hR
    cases hR
   simp only [hg3, bb] at hR
   have hg3_ := of_decide_eq_true hg3
   refine GX.pure (v' := .int .u8 (strAt s0 0)) rfl rfl rfl (core_idxSG (by omega) (by omega)) rfl ?_
   iterate 2 refine GX.q (.bool (decide ((strAt s0 0) = 48))) ?_
   refine GX.m rfl ?_
   rcases bool_two (decide ((strAt s0 0) = 48)) with hb4 | hb4
   ·rw [hb4]; first | replace hR := cond_f hb4 hR | (try simp only [hb4, bb] at hR)
    refine GX.m rfl ?_
    generalize hc19 : trimO s0 (bstr [48, 49, 50, 51, 52, 53, 54, 55, 56, 57]) = c19 at hR
    rcases c19 with _ | c19
    ·try dsimp only at hR
     cases hR
    try dsimp only at hR
    try dsimp only at hR
    refine GX.callp (r := .str c19) rfl rfl rfl (f59_ok s0 (bstr [48, 49, 50, 51, 52, 53, 54, 55, 56, 57]) _ hc19) rfl rfl ?_
    iterate 2 refine GX.q (.bool (!(c19.toList == (bstr []).toList))) ?_
    refine GX.done ?_
    rcases bool_two (c19.toList == (bstr []).toList) with hb5 | hb5
    ·rw [hb5]; first | replace hR := cond_f hb5 hR | (try simp only [hb5, bb] at hR)
     refine WK.condT rfl ?_
     refine WK.sr mixed ?_
     refine GX.m rfl ?_
     refine GX.done ?_
     refine WK.ret ?_
     obtain rfl := Option.some.inj hR
     exact RetQ.fr [] (.inr rfl) rfl rfl rfl rfl
    ·rw [hb5]; first | replace hR := cond_t hb5 hR | (try simp only [hb5, bb] at hR)
     refine WK.condF rfl ?_
     refine WK.skip ?_
     refine WK.sr mixed ?_
     refine GX.m rfl ?_
     generalize hc24 : atoiO s0 = c24 at hR
     rcases c24 with _ | c24
     ·try dsimp only at hR
      cases hR
     try dsimp only at hR
     obtain ⟨c24a, c24b⟩ := c24; try dsimp only at hR
     refine GX.callp (r := .tup [.int .i64 c24a, .nili]) rfl rfl rfl (f60_ok s0 _ hc24) rfl rfl ?_
     refine GX.m rfl ?_
     refine GX.q (.int .i64 c24a) ?_
     refine GX.q (.nili) ?_
     iterate 2 refine GX.m rfl ?_
     refine GX.done ?_
     refine WK.sr mixed ?_
     iterate 2 refine GX.m rfl ?_
     refine GX.done ?_
     refine WK.ret ?_
     obtain rfl := Option.some.inj hR
     exact RetQ.fr [] (.inr rfl) rfl rfl rfl rfl
   ·rw [hb4]; first | replace hR := cond_t hb4 hR | (try simp only [hb4, bb] at hR)
    iterate 3 refine GX.skip rfl rfl ?_
    refine GX.q (.bool true) ?_
    refine GX.done ?_
    refine WK.condT rfl ?_
    refine WK.sr mixed ?_
    refine GX.m rfl ?_
    refine GX.done ?_
    refine WK.ret ?_
    obtain rfl := Option.some.inj hR
    exact RetQ.fr [] (.inr rfl) rfl rfl rfl rfl
  ·rw [hb2]; first | replace hR := cond_t hb2 hR | (try simp only [hb2, bb] at hR)
   iterate 3 refine GX.skip rfl rfl ?_
   refine GX.q (.bool true) ?_
   refine GX.m rfl ?_
   iterate 3 refine GX.skip rfl rfl ?_
   refine GX.q (.bool true) ?_
   refine GX.done ?_
   refine WK.condT rfl ?_
   refine WK.sr mixed ?_
   refine GX.m rfl ?_
   refine GX.done ?_
   refine WK.ret ?_
   obtain rfl := Option.some.inj hR
   exact RetQ.fr [] (.inr rfl) rfl rfl rfl rfl
 ·rw [hb1]; try simp only [hb1, bb] at hR
  iterate 3 refine GX.skip rfl rfl ?_
  refine GX.q (.bool true) ?_
  refine GX.m rfl ?_
  iterate 3 refine GX.skip rfl rfl ?_
  refine GX.q (.bool true) ?_
  refine GX.m rfl ?_
  iterate 3 refine GX.skip rfl rfl ?_
  refine GX.q (.bool true) ?_
  refine GX.done ?_
  refine WK.condT rfl ?_
  refine WK.sr mixed ?_
  refine GX.m rfl ?_
  refine GX.done ?_
  refine WK.ret ?_
  obtain rfl := Option.some.inj hR
  exact RetQ.fr [] (.inr rfl) rfl rfl rfl rfl

theorem f91_ok (c0 : Int) (R : Bool) (hR : F91_addr_number_1 c0 = R) : FnOk Tryz.prog 91 [.int .i32 c0] [] 0 (.bool R) [] 0 := by
 refine FnOk.wk i91 rfl rfl ?_
 unfold F91_addr_number_1 at hR
 change WK _ _ _ [ac91] _ ⟨[(0, .int .i32 c0)], [], 0⟩
 unfold ac91
 refine WK.sr mixed ?_
 refine GX.m rfl ?_
 refine GX.done ?_
 refine WK.sr mixed ?_
 refine GX.m rfl ?_
 refine GX.q (.bool (decide (c0 < 48))) ?_
 refine GX.m rfl ?_
 rcases bool_two (decide (c0 < 48)) with hb1 | hb1
 ·rw [hb1]; try simp only [hb1, bb] at hR
  refine GX.m rfl ?_
  iterate 2 refine GX.q (.bool (decide (57 < c0))) ?_
  refine GX.m rfl ?_
  refine GX.done ?_
  refine WK.ret ?_
  subst hR
  exact RetQ.fr [] (.inr rfl) rfl rfl rfl rfl
 ·rw [hb1]; try simp only [hb1, bb] at hR
  iterate 2 refine GX.skip rfl rfl ?_
  refine GX.q (.bool true) ?_
  refine GX.m rfl ?_
  refine GX.done ?_
  refine WK.ret ?_
  subst hR
  exact RetQ.fr [] (.inr rfl) rfl rfl rfl rfl

theorem f62_ok (s0 : ByteArray) (most1 : Int) (R : Int × Bool) (hR : F62_addr_number s0 most1 = some R) : FnOk Tryz.prog 62 [.str s0, .int .i64 most1] [] 0 (.tup [.int .i64 R.1, .bool R.2]) [] 0 := by
 refine FnOk.wk i62 rfl rfl ?_
 unfold F62_addr_number at hR
 try dsimp only at hR
 change WK _ _ _ [ac62] _ ⟨[(0, .str s0), (1, .int .i64 most1)], [], 0⟩
 unfold ac62
 refine WK.sr mixed ?_
 iterate 2 refine GX.m rfl ?_
 refine GX.done ?_
 refine WK.sr mixed ?_
 refine GX.m rfl ?_
 refine GX.done ?_
 refine WK.seq ?_
 refine WK.sr mixed ?_
 refine GX.m rfl ?_
 refine GX.q (.bool (s0.toList == (bstr []).toList)) ?_
 refine GX.m rfl ?_
 rcases bool_two ((s0.toList == (bstr []).toList)) with hb1 | hb1
 ·rw [hb1]; try simp only [hb1, bb] at hR
  refine GX.m rfl ?_
  refine GX.q (.int .i64 (s0.size : Int)) ?_
  iterate 2 refine GX.q (.bool (decide (3 < (s0.size : Int)))) ?_
  refine GX.m rfl ?_
  rcases bool_two (decide (3 < (s0.size : Int))) with hb2 | hb2
  ·rw [hb2]; first | replace hR := cond_f hb2 hR | (try simp only [hb2, bb] at hR)
   refine GX.m rfl ?_
   refine GX.q (.int .i64 (s0.size : Int)) ?_
   refine GX.q (.bool (decide (1 < (s0.size : Int)))) ?_
   refine GX.m rfl ?_
   rcases bool_two (decide (1 < (s0.size : Int))) with hb3 | hb3
   ·rw [hb3]; first | replace hR := cond_f hb3 hR | (try simp only [hb3, bb] at hR)
    iterate 3 refine GX.skip rfl rfl ?_
    iterate 2 refine GX.q (.bool false) ?_
    iterate 3 refine GX.m rfl ?_
    generalize hc29 : containsFuncS s0 (fun y0 => F91_addr_number_1 y0) = c29 at hR
    try dsimp only at hR
    refine GX.callp (r := .bool c29) rfl rfl rfl (f92_ok s0 91 [] [] (fun y0 => F91_addr_number_1 y0) ⟨rfl, rfl⟩ (fun y0 _ hr => f91_ok y0 _ hr) _ hc29) rfl rfl ?_
    refine GX.q (.bool c29) ?_
    refine GX.done ?_
    rcases bool_two (c29) with hb4 | hb4
    ·rw [hb4]; first | replace hR := cond_f hb4 hR | (try simp only [hb4, bb] at hR)
     refine WK.condF rfl ?_
     refine WK.skip ?_
     refine WK.sr mixed ?_
     refine GX.m rfl ?_
     generalize hc33 : atoiO s0 = c33 at hR
     rcases c33 with _ | c33
     ·try dsimp only at hR
      cases hR
     try dsimp only at hR
     obtain ⟨c33a, c33b⟩ := c33; try dsimp only at hR
     refine GX.callp (r := .tup [.int .i64 c33a, .nili]) rfl rfl rfl (f60_ok s0 _ hc33) rfl rfl ?_
     refine GX.m rfl ?_
     refine GX.q (.int .i64 c33a) ?_
     refine GX.q (.nili) ?_
     iterate 2 refine GX.m rfl ?_
     refine GX.done ?_
     refine WK.sr mixed ?_
     iterate 3 refine GX.m rfl ?_
     refine GX.q (.bool (decide (c33a ≤ most1))) ?_
     iterate 2 refine GX.m rfl ?_
     refine GX.done ?_
     refine WK.ret ?_
     obtain rfl := Option.some.inj hR
     exact RetQ.fr [] (.inr rfl) rfl rfl rfl rfl
    ·rw [hb4]; first | replace hR := cond_t hb4 hR | (try simp only [hb4, bb] at hR)
     refine WK.condT rfl ?_
     refine WK.sr mixed ?_
     iterate 2 refine GX.m rfl ?_
     refine GX.done ?_
     refine WK.ret ?_
     obtain rfl := Option.some.inj hR
     exact RetQ.fr [] (.inr rfl) rfl rfl rfl rfl
   ·rw [hb3]; first | replace hR := cond_t hb3 hR | (try simp only [hb3, bb] at hR)
    refine GX.m rfl ?_
    rcases bool_two (decide ((0 : Int) < (s0.size : Int))) with hg5 | hg5
    ·simp only [hg5, bb] at hR
     try dsimp only at hR
     cases hR
    simp only [hg5, bb] at hR
    have hg5_ := of_decide_eq_true hg5
    refine GX.pure (v' := .int .u8 (strAt s0 0)) rfl rfl rfl (core_idxSG (by omega) (by omega)) rfl ?_
    iterate 3 refine GX.q (.bool (decide ((strAt s0 0) = 48))) ?_
    refine GX.m rfl ?_
    rcases bool_two (decide ((strAt s0 0) = 48)) with hb6 | hb6
    ·rw [hb6]; first | replace hR := cond_f hb6 hR | (try simp only [hb6, bb] at hR)
     iterate 2 refine GX.m rfl ?_
     generalize hc29 : containsFuncS s0 (fun y0 => F91_addr_number_1 y0) = c29 at hR
     try dsimp only at hR
     refine GX.callp (r := .bool c29) rfl rfl rfl (f92_ok s0 91 [] [] (fun y0 => F91_addr_number_1 y0) ⟨rfl, rfl⟩ (fun y0 _ hr => f91_ok y0 _ hr) _ hc29) rfl rfl ?_
     refine GX.q (.bool c29) ?_
     refine GX.done ?_
     rcases bool_two (c29) with hb7 | hb7
     ·rw [hb7]; first | replace hR := cond_f hb7 hR | (try simp only [hb7, bb] at hR)
      refine WK.condF rfl ?_
      refine WK.skip ?_
      refine WK.sr mixed ?_
      refine GX.m rfl ?_
      generalize hc33 : atoiO s0 = c33 at hR
      rcases c33 with _ | c33
      ·try dsimp only at hR
       cases hR
      try dsimp only at hR
      obtain ⟨c33a, c33b⟩ := c33; try dsimp only at hR
      refine GX.callp (r := .tup [.int .i64 c33a, .nili]) rfl rfl rfl (f60_ok s0 _ hc33) rfl rfl ?_
      refine GX.m rfl ?_
      refine GX.q (.int .i64 c33a) ?_
      refine GX.q (.nili) ?_
      iterate 2 refine GX.m rfl ?_
      refine GX.done ?_
      refine WK.sr mixed ?_
      iterate 3 refine GX.m rfl ?_
      refine GX.q (.bool (decide (c33a ≤ most1))) ?_
      iterate 2 refine GX.m rfl ?_
      refine GX.done ?_
      refine WK.ret ?_
      obtain rfl := Option.some.inj hR
      exact RetQ.fr [] (.inr rfl) rfl rfl rfl rfl
     ·rw [hb7]; first | replace hR := cond_t hb7 hR | (try simp only [hb7, bb] at hR)
      refine WK.condT rfl ?_
      refine WK.sr mixed ?_
      iterate 2 refine GX.m rfl ?_
      refine GX.done ?_
      refine WK.ret ?_
      obtain rfl := Option.some.inj hR
      exact RetQ.fr [] (.inr rfl) rfl rfl rfl rfl
    ·rw [hb6]; first | replace hR := cond_t hb6 hR | (try simp only [hb6, bb] at hR)
     iterate 3 refine GX.skip rfl rfl ?_
     refine GX.q (.bool true) ?_
     refine GX.done ?_
     refine WK.condT rfl ?_
     refine WK.sr mixed ?_
     iterate 2 refine GX.m rfl ?_
     refine GX.done ?_
     refine WK.ret ?_
     obtain rfl := Option.some.inj hR
     exact RetQ.fr [] (.inr rfl) rfl rfl rfl rfl
  ·rw [hb2]; first | replace hR := cond_t hb2 hR | (try simp only [hb2, bb] at hR)
   iterate 8 refine GX.skip rfl rfl ?_
   refine GX.q (.bool true) ?_
   refine GX.m rfl ?_
   iterate 3 refine GX.skip rfl rfl ?_
   refine GX.q (.bool true) ?_
   refine GX.done ?_
   refine WK.condT rfl ?_
   refine WK.sr mixed ?_
   iterate 2 refine GX.m rfl ?_
   refine GX.done ?_
   refine WK.ret ?_
   obtain rfl := Option.some.inj hR
   exact RetQ.fr [] (.inr rfl) rfl rfl rfl rfl
 ·rw [hb1]; try simp only [hb1, bb] at hR
  iterate 3 refine GX.skip rfl rfl ?_
  refine GX.q (.bool true) ?_
  refine GX.m rfl ?_
  iterate 8 refine GX.skip rfl rfl ?_
  refine GX.q (.bool true) ?_
  refine GX.m rfl ?_
  iterate 3 refine GX.skip rfl rfl ?_
  refine GX.q (.bool true) ?_
  refine GX.done ?_
  refine WK.condT rfl ?_
  refine WK.sr mixed ?_
  iterate 2 refine GX.m rfl ?_
  refine GX.done ?_
  refine WK.ret ?_
  obtain rfl := Option.some.inj hR
  exact RetQ.fr [] (.inr rfl) rfl rfl rfl rfl

theorem f32_ok (s0 : ByteArray) (R : TPrefix × Int) (hR : F32_addr_Parse s0 = some R) : FnOk Tryz.prog 32 [.str s0] [] 0 (.tup [.agg (TPrefix.c R.1), .int .i64 R.2]) [] 0 := by
 refine FnOk.wk i32 rfl rfl ?_
 unfold F32_addr_Parse at hR
 try dsimp only at hR
 change WK _ _ _ [ac32] _ ⟨[(0, .str s0)], [], 0⟩
 unfold ac32
 refine WK.sr mixed ?_
 refine GX.step (v' := .ptr 0 0) (heap' := [(0, .box [.int .u32 0, .int .i64 0])]) (next' := 1) rfl rfl rfl rfl rfl rfl rfl ?_
 refine GX.m rfl ?_
 refine GX.done ?_
 refine WK.sr mixed ?_
 refine GX.m rfl ?_
 generalize hc17 : cutO s0 (bstr [47]) = c17 at hR
 rcases c17 with _ | c17
 ·try dsimp only at hR
  cases hR
 try dsimp only at hR
 obtain ⟨c17a, c17b, c17c⟩ := c17; try dsimp only at hR
 refine GX.callp (r := .tup [.str c17a, .str c17b, .bool c17c]) rfl rfl rfl (f61_ok s0 (bstr [47]) _ hc17) rfl rfl ?_
 refine GX.m rfl ?_
 refine GX.q (.str c17a) ?_
 refine GX.q (.str c17b) ?_
 refine GX.q (.bool c17c) ?_
 iterate 3 refine GX.m rfl ?_
 refine GX.done ?_
 refine WK.sr mixed ?_
 refine GX.m rfl ?_
 generalize hc22 : splitO c17a (bstr [46]) = c22 at hR
 rcases c22 with _ | c22
 ·try dsimp only at hR
  cases hR
 try dsimp only at hR
 try dsimp only at hR
 refine GX.callp (r := .ro 1 (c22.map c_str)) rfl rfl rfl (f30_ok c17a (bstr [46]) _ hc22) rfl rfl ?_
 refine GX.m rfl ?_
 refine GX.done ?_
 refine WK.sr mixed ?_
 refine GX.m rfl ?_
 generalize hc25 : F62_addr_number c17b 32 = c25 at hR
 rcases c25 with _ | c25
 ·try dsimp only at hR
  cases hR
 try dsimp only at hR
 obtain ⟨c25a, c25b⟩ := c25; try dsimp only at hR
 refine GX.callp (r := .tup [.int .i64 c25a, .bool c25b]) rfl rfl rfl (f62_ok c17b 32 _ hc25) rfl rfl ?_
 refine GX.m rfl ?_
 refine GX.q (.int .i64 c25a) ?_
 refine GX.q (.bool c25b) ?_
 iterate 2 refine GX.m rfl ?_
 refine GX.done ?_
 refine WK.seq ?_
 refine WK.sr mixed ?_
 refine GX.m rfl ?_
 refine GX.q (.bool (!c17c)) ?_
 refine GX.m rfl ?_
 rcases bool_two (c17c) with hb1 | hb1
 ·rw [hb1]; first | replace hR := cond_f hb1 hR | (try simp only [hb1, bb] at hR)
  iterate 2 refine GX.skip rfl rfl ?_
  refine GX.q (.bool true) ?_
  refine GX.m rfl ?_
  iterate 3 refine GX.skip rfl rfl ?_
  refine GX.q (.bool true) ?_
  refine GX.done ?_
  refine WK.condT rfl ?_
  refine WK.sr mixed ?_
  refine GX.q (.agg [.int .u32 0, .int .i64 0]) ?_
  refine GX.step0 (heap' := [(0, .box [.int .u32 0, .int .i64 0])]) (next' := 1) rfl rfl rfl rfl rfl ?_
  refine GX.m rfl ?_
  refine GX.done ?_
  refine WK.ret ?_
  obtain rfl := Option.some.inj hR
  exact RetQ.fr [] (.inr rfl) rfl rfl rfl rfl
 ·rw [hb1]; first | replace hR := cond_t hb1 hR | (try simp only [hb1, bb] at hR)
  refine GX.m rfl ?_
  iterate 2 refine GX.q (.bool (!c25b)) ?_
  refine GX.m rfl ?_
  rcases bool_two (c25b) with hb2 | hb2
  ·rw [hb2]; first | replace hR := cond_f hb2 hR | (try simp only [hb2, bb] at hR)
   iterate 3 refine GX.skip rfl rfl ?_
   refine GX.q (.bool true) ?_
   refine GX.done ?_
   refine WK.condT rfl ?_
   refine WK.sr mixed ?_
   refine GX.q (.agg [.int .u32 0, .int .i64 0]) ?_
   refine GX.step0 (heap' := [(0, .box [.int .u32 0, .int .i64 0])]) (next' := 1) rfl rfl rfl rfl rfl ?_
   refine GX.m rfl ?_
   refine GX.done ?_
   refine WK.ret ?_
   obtain rfl := Option.some.inj hR
   exact RetQ.fr [] (.inr rfl) rfl rfl rfl rfl
  ·rw [hb2]; first | replace hR := cond_t hb2 hR | (try simp only [hb2, bb] at hR)
   refine GX.m rfl ?_
   refine GX.pure (v' := .int .i64 (c22.length : Int)) rfl rfl rfl rfl (len_map _ _) ?_
   iterate 2 refine GX.q (.bool (!decide ((c22.length : Int) = 4))) ?_
   refine GX.done ?_
   rcases bool_two (decide ((c22.length : Int) = 4)) with hb3 | hb3
   ·rw [hb3]; first | replace hR := cond_f hb3 hR | (try simp only [hb3, bb] at hR)
    refine WK.condT rfl ?_
    refine WK.sr mixed ?_
    refine GX.q (.agg [.int .u32 0, .int .i64 0]) ?_
    refine GX.step0 (heap' := [(0, .box [.int .u32 0, .int .i64 0])]) (next' := 1) rfl rfl rfl rfl rfl ?_
    refine GX.m rfl ?_
    refine GX.done ?_
    refine WK.ret ?_
    obtain rfl := Option.some.inj hR
    exact RetQ.fr [] (.inr rfl) rfl rfl rfl rfl
   ·rw [hb3]; first | replace hR := cond_t hb3 hR | (try simp only [hb3, bb] at hR)
    refine WK.condF rfl ?_
    refine WK.skip ?_
    refine WK.sr mixed ?_
    refine GX.m rfl ?_
    refine GX.q (.agg [.int .u32 0, .int .i64 c25a]) ?_
    refine GX.step (v' := .ptr 1 0) (heap' := [(0, .box [.int .u32 0, .int .i64 0]), (1, .box [.int .u32 0, .int .i64 0])]) (next' := 2) rfl rfl rfl rfl rfl rfl rfl ?_
    refine GX.step0 (heap' := [(0, .box [.int .u32 0, .int .i64 0]), (1, .box [.int .u32 0, .int .i64 c25a])]) (next' := 2) rfl rfl rfl rfl rfl ?_
    refine GX.done ?_
    refine WK.seq ?_
    refine WK.sr mixed ?_
    refine GX.m rfl ?_
    refine GX.pure (v' := .int .i64 (c22.length : Int)) rfl rfl rfl rfl (len_map _ _) ?_
    refine GX.m rfl ?_
    refine GX.done ?_
    refine WK.len (t := 22) rfl (by simp) (fun hlen_9 => ?_)
    rw [List.length_map] at hlen_9
    generalize hZ_9 : F32_addr_Parse_l1 (⟨0, c25a⟩ : TPrefix) c22 = Z_9 at hR
    refine WK.forK (fun k s => ∃ (i44 : Nat) (p10 : TPrefix), i44 ≤ c22.length ∧ k = c22.length - i44 ∧ F32_addr_Parse_l1 p10 (c22.drop i44) = Z_9 ∧ s = ⟨[(2, .ptr 0 0), (10, .ptr 1 0), (42, .ro 1 (c22.map c_str)), (43, .int .i64 (c22.length : Int)), (44, .int .i64 (i44 : Int))], [(0, .box [.int .u32 0, .int .i64 0]), (1, .box (TPrefix.c p10))], 2⟩) c22.length ⟨⟨[(2, .ptr 0 0), (10, .ptr 1 0), (42, .ro 1 (c22.map c_str)), (43, .int .i64 (c22.length : Int)), (44, .int .i64 (0 : Int))], [(0, .box [.int .u32 0, .int .i64 0]), (1, .box (TPrefix.c (⟨0, c25a⟩ : TPrefix)))], 2⟩, Conv.keep [0, 1] [] [2, 10, 42, 43, 44] rfl rfl (viewE_cons rfl rfl (viewE_cons rfl rfl (viewE_cons rfl rfl (viewE_cons rfl rfl (viewE_cons rfl rfl viewE_nil))))) rfl rfl, 0, (⟨0, c25a⟩ : TPrefix), (by omega), rfl, hZ_9, rfl⟩ ?_
    rintro _ _ ⟨i44, p10, hi_9, rfl, hL_9, rfl⟩ again_9 out_9 Q_9 hagain_9 hout_9 hQ_9
    refine WK.sr mixed ?_
    refine GX.q (.bool (decide ((i44 : Int) < (c22.length : Int)))) ?_
    refine GX.done ?_
    refine WK.seq ?_
    rcases bool_two (decide ((i44 : Int) < (c22.length : Int))) with hb10 | hb10
    ·rw [hb10]
     rw [drop_end hb10, F32_addr_Parse_l1] at hL_9
     refine WK.condF rfl ?_
     refine WK.exit ?_
     refine QF.exit (hout_9 _ ?_)
     subst hL_9
     try dsimp only [cond_true, cond_false] at hR
     refine WK.seq ?_
     refine WK.sr mixed ?_
     refine GX.q (.agg (TPrefix.c p10)) ?_
     generalize hc65 : F37_addr_May p10 = c65 at hR
     try dsimp only at hR
     refine GX.callp (r := .bool c65) rfl rfl rfl (f37_ok p10 _ hc65) rfl rfl ?_
     refine GX.q (.bool (!c65)) ?_
     refine GX.done ?_
     rcases bool_two (c65) with hb11 | hb11
     ·rw [hb11]; first | replace hR := cond_f hb11 hR | (try simp only [hb11, bb] at hR)
      refine WK.condT rfl ?_
      refine WK.sr mixed ?_
      refine GX.q (.agg [.int .u32 0, .int .i64 0]) ?_
      refine GX.step0 (heap' := [(0, .box [.int .u32 0, .int .i64 0]), (1, .box (TPrefix.c p10))]) (next' := 2) rfl rfl rfl rfl rfl ?_
      refine GX.m rfl ?_
      refine GX.done ?_
      refine WK.ret ?_
      obtain rfl := Option.some.inj hR
      exact RetQ.fr [] (.inr rfl) rfl rfl rfl rfl
     ·rw [hb11]; first | replace hR := cond_t hb11 hR | (try simp only [hb11, bb] at hR)
      refine WK.condF rfl ?_
      refine WK.skip ?_
      refine WK.sr mixed ?_
      refine GX.q (.agg (TPrefix.c p10)) ?_
      refine GX.step0 (heap' := [(0, .box (TPrefix.c p10)), (1, .box (TPrefix.c p10))]) (next' := 2) rfl rfl rfl rfl rfl ?_
      refine GX.m rfl ?_
      refine GX.done ?_
      refine WK.ret ?_
      obtain rfl := Option.some.inj hR
      exact RetQ.fr [] (.inr rfl) rfl rfl rfl rfl
    ·rw [hb10]
     obtain ⟨x44, hx9, hd9, hlt9⟩ := drop_more hb10
     rw [hd9, F32_addr_Parse_l1] at hL_9
     refine WK.condT rfl ?_
     refine WK.skip ?_
     refine WK.seq ?_
     refine WK.blockK (fun _ hK12 => ?_)
     refine WK.sr mixed ?_
     refine GX.idxT (c := c_str) (x := x44) rfl rfl rfl (Int.natCast_nonneg _) hx9 ?_
     refine GX.q (.str x44) ?_
     refine GX.m rfl ?_
     refine GX.done ?_
     refine WK.sr mixed ?_
     refine GX.m rfl ?_
     generalize hc50 : F62_addr_number x44 255 = c50 at hL_9
     rcases c50 with _ | c50
     ·try dsimp only at hL_9
      subst hL_9
      try dsimp only at hR
      cases hR
     try dsimp only at hL_9
     obtain ⟨c50a, c50b⟩ := c50; try dsimp only at hL_9
     refine GX.callp (r := .tup [.int .i64 c50a, .bool c50b]) rfl rfl rfl (f62_ok x44 255 _ hc50) rfl rfl ?_
     refine GX.m rfl ?_
     refine GX.q (.int .i64 c50a) ?_
     refine GX.q (.bool c50b) ?_
     iterate 2 refine GX.m rfl ?_
     refine GX.done ?_
     refine WK.seq ?_
     refine WK.sr mixed ?_
     refine GX.m rfl ?_
     refine GX.q (.bool (!c50b)) ?_
     refine GX.done ?_
     rcases bool_two (c50b) with hb13 | hb13
     ·rw [hb13]; try simp only [hb13, bb] at hL_9
      refine WK.condT rfl ?_
      refine WK.sr mixed ?_
      refine GX.q (.agg [.int .u32 0, .int .i64 0]) ?_
      refine GX.step0 (heap' := [(0, .box [.int .u32 0, .int .i64 0]), (1, .box (TPrefix.c p10))]) (next' := 2) rfl rfl rfl rfl rfl ?_
      refine GX.m rfl ?_
      refine GX.done ?_
      refine WK.ret ?_
      refine QF.ret ?_
      refine QF.ret (hQ_9 _ _ ?_)
      subst hL_9
      try dsimp only at hR
      obtain rfl := Option.some.inj hR
      exact RetQ.fr [] (.inr rfl) rfl rfl rfl rfl
     ·rw [hb13]; try simp only [hb13, bb] at hL_9
      refine WK.condF rfl ?_
      refine WK.skip ?_
      refine WK.regx mixed ?_
      refine GX.q (.ptr 1 0) ?_
      refine GX.q (.int .u32 p10.A) ?_
      refine GX.q (.int .u32 (IntKind.u32.wrap (p10.A * 2 ^ 8))) ?_
      refine GX.m rfl ?_
      refine GX.q (.int .u32 (IntKind.u32.wrap c50a)) ?_
      refine GX.q (.int .u32 (bit_or .u32 (IntKind.u32.wrap (p10.A * 2 ^ 8)) (IntKind.u32.wrap c50a))) ?_
      refine GX.q (.ptr 1 0) ?_
      refine GX.step0 (heap' := [(0, .box [.int .u32 0, .int .i64 0]), (1, .box [.int .u32 (bit_or .u32 (IntKind.u32.wrap (p10.A * 2 ^ 8)) (IntKind.u32.wrap c50a)), .int .i64 p10.N])]) (next' := 2) rfl rfl rfl rfl rfl ?_
      refine GX.done ?_
      refine WK.nil (QF.normal (hK12 _ ?_))
      refine WK.regx mixed ?_
      refine GX.pure (v' := .int .i64 ((i44 + 1 : Nat) : Int)) rfl rfl rfl rfl (congrArg (PVal.int .i64) (wrap_up hlt9 hlen_9)) ?_
      refine GX.m rfl ?_
      refine GX.done ?_
      refine WK.nil (QF.normal ?_)
      exact hagain_9 _ (c22.length - (i44 + 1)) ⟨[(2, .ptr 0 0), (10, .ptr 1 0), (42, .ro 1 (c22.map c_str)), (43, .int .i64 (c22.length : Int)), (44, .int .i64 ((i44 + 1) : Int))], [(0, .box [.int .u32 0, .int .i64 0]), (1, .box (TPrefix.c (⟨bit_or .u32 (IntKind.u32.wrap (p10.A * 2 ^ 8)) (IntKind.u32.wrap c50a), p10.N⟩ : TPrefix)))], 2⟩ (by omega) (Conv.keep [0, 1] [] [2, 10, 42, 43, 44] rfl rfl (viewE_cons rfl rfl (viewE_cons rfl rfl (viewE_cons rfl rfl (viewE_cons rfl rfl (viewE_cons rfl rfl viewE_nil))))) rfl rfl) ⟨i44 + 1, (⟨bit_or .u32 (IntKind.u32.wrap (p10.A * 2 ^ 8)) (IntKind.u32.wrap c50a), p10.N⟩ : TPrefix), (by omega), rfl, hL_9, rfl⟩

theorem f33_ok (x0 : TRule) (l1 : List ByteArray) (R : Bool × TRule) (hR : F33_plist_Rule_limits x0 l1 = some R) : FnOk Tryz.prog 33 [.ptr 0 0, .ro 1 (l1.map c_str)] [(0, .box (TRule.c x0))] 1 (.bool R.1) [(0, .box (TRule.c R.2))] 1 := by
 refine FnOk.wk i33 rfl rfl ?_
 unfold F33_plist_Rule_limits at hR
 try dsimp only at hR
 change WK _ _ _ [ac33] _ ⟨[(0, .ptr 0 0), (1, .ro 1 (l1.map c_str))], [(0, .box (TRule.c x0))], 1⟩
 unfold ac33
 refine WK.sr mixed ?_
 refine GX.m rfl ?_
 refine GX.done ?_
 iterate 2 refine WK.seq ?_
 refine WK.drawn mixed ?_
 refine RD.m rfl ?_
 refine RD.q (.ptr 0 0) ?_
 refine RD.q (.ptr 0 4) ?_
 refine RD.q (.agg [.str (bstr [103, 101]), .ptr 0 4]) ?_
 refine RD.m rfl ?_
 refine RD.q (.ptr 0 0) ?_
 refine RD.q (.ptr 0 5) ?_
 refine RD.q (.agg [.str (bstr [108, 101]), .ptr 0 5]) ?_
 refine RD.step (v' := .own 1 2 0 2) (heap' := [(0, .box (TRule.c x0)), (1, .box [.str (bstr [103, 101]), .ptr 0 4, .str (bstr [108, 101]), .ptr 0 5])]) (next' := 2) rfl rfl rfl rfl rfl rfl rfl ?_
 refine RD.q (.int .i64 2) ?_
 refine RD.m rfl ?_
 refine RD.done rfl ?_
 refine WK.unroll 4 (WU.go ?_)
 refine WK.sr mixed ?_
 refine GX.q (.bool true) ?_
 refine GX.done ?_
 refine WK.seq ?_
 refine WK.condT rfl ?_
 refine WK.skip ?_
 refine WK.seq ?_
 refine WK.blockK (fun _ hK2 => ?_)
 refine WK.sr mixed ?_
 refine GX.q (.ptr 1 0) ?_
 refine GX.q (.agg [.str (bstr [103, 101]), .ptr 0 4]) ?_
 refine GX.step (v' := .ptr 2 0) (heap' := [(0, .box (TRule.c x0)), (1, .box [.str (bstr [103, 101]), .ptr 0 4, .str (bstr [108, 101]), .ptr 0 5]), (2, .box [.str (bstr []), .nilp])]) (next' := 3) rfl rfl rfl rfl rfl rfl rfl ?_
 refine GX.step0 (heap' := [(0, .box (TRule.c x0)), (1, .box [.str (bstr [103, 101]), .ptr 0 4, .str (bstr [108, 101]), .ptr 0 5]), (2, .box [.str (bstr [103, 101]), .ptr 0 4])]) (next' := 3) rfl rfl rfl rfl rfl ?_
 refine GX.done ?_
 iterate 2 refine WK.seq ?_
 refine WK.drawn mixed ?_
 refine RD.m rfl ?_
 refine RD.pure (v' := .int .i64 (l1.length : Int)) rfl rfl rfl rfl (len_map _ _) ?_
 refine RD.q (.bool (decide ((l1.length : Int) < 2))) ?_
 refine RD.m rfl ?_
 rcases bool_two (decide ((l1.length : Int) < 2)) with hb3 | hb3
 ·rw [hb3]; first | replace hR := cond_f hb3 hR | (try simp only [hb3, bb] at hR)
  refine RD.m rfl ?_
  generalize hx903 : getI l1 0 = x903 at hR
  rcases x903 with _ | x903
  ·try dsimp only at hR
   cases hR
  try dsimp only at hR
  obtain ⟨hx9030, hx903j, hx903l, hx903⟩ := getI_some hx903
  refine RD.idxT (c := c_str) (x := x903) rfl rfl rfl hx9030 hx903 ?_
  refine RD.q (.str x903) ?_
  refine RD.q (.ptr 2 0) ?_
  refine RD.q (.str (bstr [103, 101])) ?_
  iterate 2 refine RD.q (.bool (!(x903.toList == (bstr [103, 101]).toList))) ?_
  refine RD.done rfl ?_
  rcases bool_two (x903.toList == (bstr [103, 101]).toList) with hb5 | hb5
  ·rw [hb5]; first | replace hR := cond_f hb5 hR | (try simp only [hb5, bb] at hR)
   refine WK.condT rfl ?_
   refine WK.exit ?_
   refine QF.exit (hK2 _ ?_)
   refine WK.regx mixed ?_
   refine GX.q (.int .i64 1) ?_
   refine GX.m rfl ?_
   refine GX.done ?_
   refine WK.nil (QF.normal (WU.go ?_))
   refine WK.sr mixed ?_
   refine GX.q (.bool true) ?_
   refine GX.done ?_
   refine WK.seq ?_
   refine WK.condT rfl ?_
   refine WK.skip ?_
   refine WK.seq ?_
   refine WK.blockK (fun _ hK6 => ?_)
   refine WK.sr mixed ?_
   refine GX.q (.ptr 1 2) ?_
   refine GX.q (.agg [.str (bstr [108, 101]), .ptr 0 5]) ?_
   refine GX.step (v' := .ptr 3 0) (heap' := [(0, .box (TRule.c x0)), (1, .box [.str (bstr [103, 101]), .ptr 0 4, .str (bstr [108, 101]), .ptr 0 5]), (2, .box [.str (bstr [103, 101]), .ptr 0 4]), (3, .box [.str (bstr []), .nilp])]) (next' := 4) rfl rfl rfl rfl rfl rfl rfl ?_
   refine GX.step0 (heap' := [(0, .box (TRule.c x0)), (1, .box [.str (bstr [103, 101]), .ptr 0 4, .str (bstr [108, 101]), .ptr 0 5]), (2, .box [.str (bstr [103, 101]), .ptr 0 4]), (3, .box [.str (bstr [108, 101]), .ptr 0 5])]) (next' := 4) rfl rfl rfl rfl rfl ?_
   refine GX.done ?_
   iterate 2 refine WK.seq ?_
   refine WK.drawn mixed ?_
   refine RD.m rfl ?_
   refine RD.pure (v' := .int .i64 (l1.length : Int)) rfl rfl rfl rfl (len_map _ _) ?_
   refine RD.q (.bool (decide ((l1.length : Int) < 2))) ?_
   refine RD.m rfl ?_
   rw [hb3]
   refine RD.m rfl ?_
   refine RD.idxT (c := c_str) (x := x903) rfl rfl rfl hx9030 hx903 ?_
   refine RD.q (.str x903) ?_
   refine RD.q (.ptr 3 0) ?_
   refine RD.q (.str (bstr [108, 101])) ?_
   iterate 2 refine RD.q (.bool (!(x903.toList == (bstr [108, 101]).toList))) ?_
   refine RD.done rfl ?_
   rcases bool_two (x903.toList == (bstr [108, 101]).toList) with hb7 | hb7
   ·rw [hb7]; first | replace hR := cond_f hb7 hR | (try simp only [hb7, bb] at hR)
    refine WK.condT rfl ?_
    refine WK.exit ?_
    refine QF.exit (hK6 _ ?_)
    refine WK.regx mixed ?_
    refine GX.q (.int .i64 2) ?_
    refine GX.m rfl ?_
    refine GX.done ?_
    refine WK.nil (QF.normal (WU.go ?_))
    refine WK.sr mixed ?_
    refine GX.q (.bool false) ?_
    refine GX.done ?_
    refine WK.seq ?_
    refine WK.condF rfl ?_
    refine WK.exit ?_
    refine QF.exit ?_
    refine WK.sr mixed ?_
    refine GX.m rfl ?_
    refine GX.pure (v' := .int .i64 (l1.length : Int)) rfl rfl rfl rfl (len_map _ _) ?_
    refine GX.q (.bool (decide ((l1.length : Int) = 0))) ?_
    refine GX.m rfl ?_
    refine GX.done ?_
    refine WK.ret ?_
    obtain rfl := Option.some.inj hR
    exact RetQ.ret [0] [] (.inr rfl) rfl rfl rfl rfl rfl .refl rfl
   ·rw [hb7]; first | replace hR := cond_t hb7 hR | (try simp only [hb7, bb] at hR)
    refine WK.condF rfl ?_
    refine WK.skip ?_
    refine WK.sr mixed ?_
    refine GX.m rfl ?_
    generalize hx907 : getI l1 1 = x907 at hR
    rcases x907 with _ | x907
    ·try dsimp only at hR
     cases hR
    try dsimp only at hR
    obtain ⟨hx9070, hx907j, hx907l, hx907⟩ := getI_some hx907
    refine GX.idxT (c := c_str) (x := x907) rfl rfl rfl hx9070 hx907 ?_
    refine GX.q (.str x907) ?_
    generalize hc36 : F31_plist_number x907 = c36 at hR
    rcases c36 with _ | c36
    ·try dsimp only at hR
     cases hR
    try dsimp only at hR
    try dsimp only at hR
    refine GX.callp (r := .int .i64 c36) rfl rfl rfl (f31_ok x907 _ hc36) rfl rfl ?_
    refine GX.m rfl ?_
    refine GX.done ?_
    refine WK.seq ?_
    refine WK.sr mixed ?_
    refine GX.m rfl ?_
    refine GX.q (.bool (decide (c36 = 0))) ?_
    refine GX.done ?_
    rcases bool_two (decide (c36 = 0)) with hb9 | hb9
    ·rw [hb9]; first | replace hR := cond_f hb9 hR | (try simp only [hb9, bb] at hR)
     refine WK.condF rfl ?_
     refine WK.skip ?_
     refine WK.sr mixed ?_
     refine GX.q (.ptr 3 1) ?_
     refine GX.q (.ptr 0 5) ?_
     refine GX.m rfl ?_
     refine GX.q (.ptr 0 5) ?_
     refine GX.step0 (heap' := [(0, .box [.int .i64 x0.Seq, .bool x0.Permit, .int .u32 x0.P.A, .int .i64 x0.P.N, .int .i64 x0.Ge, .int .i64 c36]), (1, .box [.str (bstr [103, 101]), .ptr 0 4, .str (bstr [108, 101]), .ptr 0 5]), (2, .box [.str (bstr [103, 101]), .ptr 0 4]), (3, .box [.str (bstr [108, 101]), .ptr 0 5])]) (next' := 4) rfl rfl rfl rfl rfl ?_
     refine GX.done ?_
     refine WK.regx mixed ?_
     refine GX.m rfl ?_
     rcases bool_two (decide ((2 : Int) ≤ (l1.length : Int))) with hg10 | hg10
     ·simp only [hg10, bb] at hR
      try dsimp only at hR
      cases hR
     simp only [hg10, bb] at hR
     have hg10_ := of_decide_eq_true hg10
     refine GX.sliceLo (c := c_str) (M := (l1.drop 2)) rfl rfl rfl (by omega) (by omega) rfl ?_
     refine GX.m rfl ?_
     refine GX.done ?_
     refine WK.nil (QF.normal (hK6 _ ?_))
     refine WK.regx mixed ?_
     refine GX.q (.int .i64 2) ?_
     refine GX.m rfl ?_
     refine GX.done ?_
     refine WK.nil (QF.normal (WU.go ?_))
     refine WK.sr mixed ?_
     refine GX.q (.bool false) ?_
     refine GX.done ?_
     refine WK.seq ?_
     refine WK.condF rfl ?_
     refine WK.exit ?_
     refine QF.exit ?_
     refine WK.sr mixed ?_
     refine GX.m rfl ?_
     refine GX.pure (v' := .int .i64 ((l1.drop 2).length : Int)) rfl rfl rfl rfl (len_map _ _) ?_
     refine GX.q (.bool (decide (((l1.drop 2).length : Int) = 0))) ?_
     refine GX.m rfl ?_
     refine GX.done ?_
     refine WK.ret ?_
     obtain rfl := Option.some.inj hR
     exact RetQ.ret [0] [] (.inr rfl) rfl rfl rfl rfl rfl .refl rfl
    ·rw [hb9]; first | replace hR := cond_t hb9 hR | (try simp only [hb9, bb] at hR)
     refine WK.condT rfl ?_
     refine WK.sr mixed ?_
     refine GX.m rfl ?_
     refine GX.done ?_
     refine WK.ret ?_
     iterate 2 refine QF.ret ?_
     obtain rfl := Option.some.inj hR
     exact RetQ.ret [0] [] (.inr rfl) rfl rfl rfl rfl rfl .refl rfl
  ·rw [hb5]; first | replace hR := cond_t hb5 hR | (try simp only [hb5, bb] at hR)
   refine WK.condF rfl ?_
   refine WK.skip ?_
   refine WK.sr mixed ?_
   refine GX.m rfl ?_
   generalize hx910 : getI l1 1 = x910 at hR
   rcases x910 with _ | x910
   ·try dsimp only at hR
    cases hR
   try dsimp only at hR
   obtain ⟨hx9100, hx910j, hx910l, hx910⟩ := getI_some hx910
   refine GX.idxT (c := c_str) (x := x910) rfl rfl rfl hx9100 hx910 ?_
   refine GX.q (.str x910) ?_
   generalize hc36 : F31_plist_number x910 = c36 at hR
   rcases c36 with _ | c36
   ·try dsimp only at hR
    cases hR
   try dsimp only at hR
   try dsimp only at hR
   refine GX.callp (r := .int .i64 c36) rfl rfl rfl (f31_ok x910 _ hc36) rfl rfl ?_
   refine GX.m rfl ?_
   refine GX.done ?_
   refine WK.seq ?_
   refine WK.sr mixed ?_
   refine GX.m rfl ?_
   refine GX.q (.bool (decide (c36 = 0))) ?_
   refine GX.done ?_
   rcases bool_two (decide (c36 = 0)) with hb12 | hb12
   ·rw [hb12]; first | replace hR := cond_f hb12 hR | (try simp only [hb12, bb] at hR)
    refine WK.condF rfl ?_
    refine WK.skip ?_
    refine WK.sr mixed ?_
    refine GX.q (.ptr 2 1) ?_
    refine GX.q (.ptr 0 4) ?_
    refine GX.m rfl ?_
    refine GX.q (.ptr 0 4) ?_
    refine GX.step0 (heap' := [(0, .box [.int .i64 x0.Seq, .bool x0.Permit, .int .u32 x0.P.A, .int .i64 x0.P.N, .int .i64 c36, .int .i64 x0.Le]), (1, .box [.str (bstr [103, 101]), .ptr 0 4, .str (bstr [108, 101]), .ptr 0 5]), (2, .box [.str (bstr [103, 101]), .ptr 0 4])]) (next' := 3) rfl rfl rfl rfl rfl ?_
    refine GX.done ?_
    refine WK.regx mixed ?_
    refine GX.m rfl ?_
    rcases bool_two (decide ((2 : Int) ≤ (l1.length : Int))) with hg13 | hg13
    ·simp only [hg13, bb] at hR
     try dsimp only at hR
     cases hR
    simp only [hg13, bb] at hR
    have hg13_ := of_decide_eq_true hg13
    refine GX.sliceLo (c := c_str) (M := (l1.drop 2)) rfl rfl rfl (by omega) (by omega) rfl ?_
    refine GX.m rfl ?_
    refine GX.done ?_
    refine WK.nil (QF.normal (hK2 _ ?_))
    refine WK.regx mixed ?_
    refine GX.q (.int .i64 1) ?_
    refine GX.m rfl ?_
    refine GX.done ?_
    refine WK.nil (QF.normal (WU.go ?_))
    refine WK.sr mixed ?_
    refine GX.q (.bool true) ?_
    refine GX.done ?_
    refine WK.seq ?_
    refine WK.condT rfl ?_
    refine WK.skip ?_
    refine WK.seq ?_
    refine WK.blockK (fun _ hK14 => ?_)
    refine WK.sr mixed ?_
    refine GX.q (.ptr 1 2) ?_
    refine GX.q (.agg [.str (bstr [108, 101]), .ptr 0 5]) ?_
    refine GX.step (v' := .ptr 3 0) (heap' := [(0, .box [.int .i64 x0.Seq, .bool x0.Permit, .int .u32 x0.P.A, .int .i64 x0.P.N, .int .i64 c36, .int .i64 x0.Le]), (1, .box [.str (bstr [103, 101]), .ptr 0 4, .str (bstr [108, 101]), .ptr 0 5]), (2, .box [.str (bstr [103, 101]), .ptr 0 4]), (3, .box [.str (bstr []), .nilp])]) (next' := 4) rfl rfl rfl rfl rfl rfl rfl ?_
    refine GX.step0 (heap' := [(0, .box [.int .i64 x0.Seq, .bool x0.Permit, .int .u32 x0.P.A, .int .i64 x0.P.N, .int .i64 c36, .int .i64 x0.Le]), (1, .box [.str (bstr [103, 101]), .ptr 0 4, .str (bstr [108, 101]), .ptr 0 5]), (2, .box [.str (bstr [103, 101]), .ptr 0 4]), (3, .box [.str (bstr [108, 101]), .ptr 0 5])]) (next' := 4) rfl rfl rfl rfl rfl ?_
    refine GX.done ?_
    iterate 2 refine WK.seq ?_
    refine WK.drawn mixed ?_
    refine RD.m rfl ?_
    refine RD.pure (v' := .int .i64 ((l1.drop 2).length : Int)) rfl rfl rfl rfl (len_map _ _) ?_
    refine RD.q (.bool (decide (((l1.drop 2).length : Int) < 2))) ?_
    refine RD.m rfl ?_
    rcases bool_two (decide (((l1.drop 2).length : Int) < 2)) with hb15 | hb15
    ·rw [hb15]; first | replace hR := cond_f hb15 hR | (try simp only [hb15, bb] at hR)
     refine RD.m rfl ?_
     generalize hx915 : getI (l1.drop 2) 0 = x915 at hR
     rcases x915 with _ | x915
     ·try dsimp only at hR
      cases hR
     try dsimp only at hR
     obtain ⟨hx9150, hx915j, hx915l, hx915⟩ := getI_some hx915
     refine RD.idxT (c := c_str) (x := x915) rfl rfl rfl hx9150 hx915 ?_
     refine RD.q (.str x915) ?_
     refine RD.q (.ptr 3 0) ?_
     refine RD.q (.str (bstr [108, 101])) ?_
     iterate 2 refine RD.q (.bool (!(x915.toList == (bstr [108, 101]).toList))) ?_
     refine RD.done rfl ?_
     rcases bool_two (x915.toList == (bstr [108, 101]).toList) with hb17 | hb17
     ·rw [hb17]; first | replace hR := cond_f hb17 hR | (try simp only [hb17, bb] at hR)
      refine WK.condT rfl ?_
      refine WK.exit ?_
      refine QF.exit (hK14 _ ?_)
      refine WK.regx mixed ?_
      refine GX.q (.int .i64 2) ?_
      refine GX.m rfl ?_
      refine GX.done ?_
      refine WK.nil (QF.normal (WU.go ?_))
      refine WK.sr mixed ?_
      refine GX.q (.bool false) ?_
      refine GX.done ?_
      refine WK.seq ?_
      refine WK.condF rfl ?_
      refine WK.exit ?_
      refine QF.exit ?_
      refine WK.sr mixed ?_
      refine GX.m rfl ?_
      refine GX.pure (v' := .int .i64 ((l1.drop 2).length : Int)) rfl rfl rfl rfl (len_map _ _) ?_
      refine GX.q (.bool (decide (((l1.drop 2).length : Int) = 0))) ?_
      refine GX.m rfl ?_
      refine GX.done ?_
      refine WK.ret ?_
      obtain rfl := Option.some.inj hR
      exact RetQ.ret [0] [] (.inr rfl) rfl rfl rfl rfl rfl .refl rfl
     ·rw [hb17]; first | replace hR := cond_t hb17 hR | (try simp only [hb17, bb] at hR)
      refine WK.condF rfl ?_
      refine WK.skip ?_
      refine WK.sr mixed ?_
      refine GX.m rfl ?_
      generalize hx917 : getI (l1.drop 2) 1 = x917 at hR
      rcases x917 with _ | x917
      ·try dsimp only at hR
       cases hR
      try dsimp only at hR
      obtain ⟨hx9170, hx917j, hx917l, hx917⟩ := getI_some hx917
      refine GX.idxT (c := c_str) (x := x917) rfl rfl rfl hx9170 hx917 ?_
      refine GX.q (.str x917) ?_
      generalize hc36x : F31_plist_number x917 = c36x at hR
      rcases c36x with _ | c36x
      ·try dsimp only at hR
       cases hR
      try dsimp only at hR
      try dsimp only at hR
      refine GX.callp (r := .int .i64 c36x) rfl rfl rfl (f31_ok x917 _ hc36x) rfl rfl ?_
      refine GX.m rfl ?_
      refine GX.done ?_
      refine WK.seq ?_
      refine WK.sr mixed ?_
      refine GX.m rfl ?_
      refine GX.q (.bool (decide (c36x = 0))) ?_
      refine GX.done ?_
      rcases bool_two (decide (c36x = 0)) with hb19 | hb19
      ·rw [hb19]; first | replace hR := cond_f hb19 hR | (try simp only [hb19, bb] at hR)
       refine WK.condF rfl ?_
       refine WK.skip ?_
       refine WK.sr mixed ?_
       refine GX.q (.ptr 3 1) ?_
       refine GX.q (.ptr 0 5) ?_
       refine GX.m rfl ?_
       refine GX.q (.ptr 0 5) ?_
       refine GX.step0 (heap' := [(0, .box [.int .i64 x0.Seq, .bool x0.Permit, .int .u32 x0.P.A, .int .i64 x0.P.N, .int .i64 c36, .int .i64 c36x]), (1, .box [.str (bstr [103, 101]), .ptr 0 4, .str (bstr [108, 101]), .ptr 0 5]), (2, .box [.str (bstr [103, 101]), .ptr 0 4]), (3, .box [.str (bstr [108, 101]), .ptr 0 5])]) (next' := 4) rfl rfl rfl rfl rfl ?_
       refine GX.done ?_
       refine WK.regx mixed ?_
       refine GX.m rfl ?_
       rcases bool_two (decide ((2 : Int) ≤ ((l1.drop 2).length : Int))) with hg20 | hg20
       ·simp only [hg20, bb] at hR
        try dsimp only at hR
        cases hR
       simp only [hg20, bb] at hR
       have hg20_ := of_decide_eq_true hg20
       refine GX.sliceLo (c := c_str) (M := ((l1.drop 2).drop 2)) rfl rfl rfl (by omega) (by omega) rfl ?_
       refine GX.m rfl ?_
       refine GX.done ?_
       refine WK.nil (QF.normal (hK14 _ ?_))
       refine WK.regx mixed ?_
       refine GX.q (.int .i64 2) ?_
       refine GX.m rfl ?_
       refine GX.done ?_
       refine WK.nil (QF.normal (WU.go ?_))
       refine WK.sr mixed ?_
       refine GX.q (.bool false) ?_
       refine GX.done ?_
       refine WK.seq ?_
       refine WK.condF rfl ?_
       refine WK.exit ?_
       refine QF.exit ?_
       refine WK.sr mixed ?_
       refine GX.m rfl ?_
       refine GX.pure (v' := .int .i64 (((l1.drop 2).drop 2).length : Int)) rfl rfl rfl rfl (len_map _ _) ?_
       refine GX.q (.bool (decide ((((l1.drop 2).drop 2).length : Int) = 0))) ?_
       refine GX.m rfl ?_
       refine GX.done ?_
       refine WK.ret ?_
       obtain rfl := Option.some.inj hR
       exact RetQ.ret [0] [] (.inr rfl) rfl rfl rfl rfl rfl .refl rfl
      ·rw [hb19]; first | replace hR := cond_t hb19 hR | (try simp only [hb19, bb] at hR)
       refine WK.condT rfl ?_
       refine WK.sr mixed ?_
       refine GX.m rfl ?_
       refine GX.done ?_
       refine WK.ret ?_
       iterate 2 refine QF.ret ?_
       obtain rfl := Option.some.inj hR
       exact RetQ.ret [0] [] (.inr rfl) rfl rfl rfl rfl rfl .refl rfl
    ·rw [hb15]; first | replace hR := cond_t hb15 hR | (try simp only [hb15, bb] at hR)
     iterate 6 refine RD.skip rfl rfl ?_
     refine RD.q (.bool true) ?_
     refine RD.done rfl ?_
     refine WK.condT rfl ?_
     refine WK.exit ?_
     refine QF.exit (hK14 _ ?_)
     refine WK.regx mixed ?_
     refine GX.q (.int .i64 2) ?_
     refine GX.m rfl ?_
     refine GX.done ?_
     refine WK.nil (QF.normal (WU.go ?_))
     refine WK.sr mixed ?_
     refine GX.q (.bool false) ?_
     refine GX.done ?_
     refine WK.seq ?_
     refine WK.condF rfl ?_
     refine WK.exit ?_
     refine QF.exit ?_
     refine WK.sr mixed ?_
     refine GX.m rfl ?_
     refine GX.pure (v' := .int .i64 ((l1.drop 2).length : Int)) rfl rfl rfl rfl (len_map _ _) ?_
     refine GX.q (.bool (decide (((l1.drop 2).length : Int) = 0))) ?_
     refine GX.m rfl ?_
     refine GX.done ?_
     refine WK.ret ?_
     obtain rfl := Option.some.inj hR
     exact RetQ.ret [0] [] (.inr rfl) rfl rfl rfl rfl rfl .refl rfl
   ·rw [hb12]; first | replace hR := cond_t hb12 hR | (try simp only [hb12, bb] at hR)
    refine WK.condT rfl ?_
    refine WK.sr mixed ?_
    refine GX.m rfl ?_
    refine GX.done ?_
    refine WK.ret ?_
    iterate 2 refine QF.ret ?_
    obtain rfl := Option.some.inj hR
    exact RetQ.ret [0] [] (.inr rfl) rfl rfl rfl rfl rfl .refl rfl
 ·rw [hb3]; first | replace hR := cond_t hb3 hR | (try simp only [hb3, bb] at hR)
  iterate 6 refine RD.skip rfl rfl ?_
  refine RD.q (.bool true) ?_
  refine RD.done rfl ?_
  refine WK.condT rfl ?_
  refine WK.exit ?_
  refine QF.exit (hK2 _ ?_)
  refine WK.regx mixed ?_
  refine GX.q (.int .i64 1) ?_
  refine GX.m rfl ?_
  refine GX.done ?_
  refine WK.nil (QF.normal (WU.go ?_))
  refine WK.sr mixed ?_
  refine GX.q (.bool true) ?_
  refine GX.done ?_
  refine WK.seq ?_
  refine WK.condT rfl ?_
  refine WK.skip ?_
  refine WK.seq ?_
  refine WK.blockK (fun _ hK21 => ?_)
  refine WK.sr mixed ?_
  refine GX.q (.ptr 1 2) ?_
  refine GX.q (.agg [.str (bstr [108, 101]), .ptr 0 5]) ?_
  refine GX.step (v' := .ptr 3 0) (heap' := [(0, .box (TRule.c x0)), (1, .box [.str (bstr [103, 101]), .ptr 0 4, .str (bstr [108, 101]), .ptr 0 5]), (2, .box [.str (bstr [103, 101]), .ptr 0 4]), (3, .box [.str (bstr []), .nilp])]) (next' := 4) rfl rfl rfl rfl rfl rfl rfl ?_
  refine GX.step0 (heap' := [(0, .box (TRule.c x0)), (1, .box [.str (bstr [103, 101]), .ptr 0 4, .str (bstr [108, 101]), .ptr 0 5]), (2, .box [.str (bstr [103, 101]), .ptr 0 4]), (3, .box [.str (bstr [108, 101]), .ptr 0 5])]) (next' := 4) rfl rfl rfl rfl rfl ?_
  refine GX.done ?_
  iterate 2 refine WK.seq ?_
  refine WK.drawn mixed ?_
  refine RD.m rfl ?_
  refine RD.pure (v' := .int .i64 (l1.length : Int)) rfl rfl rfl rfl (len_map _ _) ?_
  refine RD.q (.bool (decide ((l1.length : Int) < 2))) ?_
  refine RD.m rfl ?_
  rw [hb3]
  iterate 6 refine RD.skip rfl rfl ?_
  refine RD.q (.bool true) ?_
  refine RD.done rfl ?_
  refine WK.condT rfl ?_
  refine WK.exit ?_
  refine QF.exit (hK21 _ ?_)
  refine WK.regx mixed ?_
  refine GX.q (.int .i64 2) ?_
  refine GX.m rfl ?_
  refine GX.done ?_
  refine WK.nil (QF.normal (WU.go ?_))
  refine WK.sr mixed ?_
  refine GX.q (.bool false) ?_
  refine GX.done ?_
  refine WK.seq ?_
  refine WK.condF rfl ?_
  refine WK.exit ?_
  refine QF.exit ?_
  refine WK.sr mixed ?_
  refine GX.m rfl ?_
  refine GX.pure (v' := .int .i64 (l1.length : Int)) rfl rfl rfl rfl (len_map _ _) ?_
  refine GX.q (.bool (decide ((l1.length : Int) = 0))) ?_
  refine GX.m rfl ?_
  refine GX.done ?_
  refine WK.ret ?_
  obtain rfl := Option.some.inj hR
  exact RetQ.ret [0] [] (.inr rfl) rfl rfl rfl rfl rfl .refl rfl

theorem f8_ok (s0 : ByteArray) (R : TRule × Int) (hR : F8_plist_Parse s0 = some R) : FnOk Tryz.prog 8 [.str s0] [] 0 (.tup [.agg (TRule.c R.1), .int .i64 R.2]) [] 0 := by
 refine FnOk.wk i8 rfl rfl ?_
 unfold F8_plist_Parse at hR
 try dsimp only at hR
 change WK _ _ _ [ac8] _ ⟨[(0, .str s0)], [], 0⟩
 unfold ac8
 refine WK.sr mixed ?_
 refine GX.step (v' := .ptr 0 0) (heap' := [(0, .box [.int .i64 0, .bool false, .int .u32 0, .int .i64 0, .int .i64 0, .int .i64 0])]) (next' := 1) rfl rfl rfl rfl rfl rfl rfl ?_
 refine GX.m rfl ?_
 refine GX.done ?_
 refine WK.sr mixed ?_
 refine GX.m rfl ?_
 generalize hc9 : splitO s0 (bstr [32]) = c9 at hR
 rcases c9 with _ | c9
 ·try dsimp only at hR
  cases hR
 try dsimp only at hR
 try dsimp only at hR
 refine GX.callp (r := .ro 1 (c9.map c_str)) rfl rfl rfl (f30_ok s0 (bstr [32]) _ hc9) rfl rfl ?_
 refine GX.m rfl ?_
 refine GX.done ?_
 refine WK.seq ?_
 refine WK.sr mixed ?_
 refine GX.m rfl ?_
 refine GX.pure (v' := .int .i64 (c9.length : Int)) rfl rfl rfl rfl (len_map _ _) ?_
 refine GX.q (.bool (decide ((c9.length : Int) < 3))) ?_
 refine GX.m rfl ?_
 rcases bool_two (decide ((c9.length : Int) < 3)) with hb1 | hb1
 ·rw [hb1]; first | replace hR := cond_f hb1 hR | (try simp only [hb1, bb] at hR)
  refine GX.m rfl ?_
  generalize hx901 : getI c9 0 = x901 at hR
  rcases x901 with _ | x901
  ·try dsimp only at hR
   cases hR
  try dsimp only at hR
  obtain ⟨hx9010, hx901j, hx901l, hx901⟩ := getI_some hx901
  refine GX.idxT (c := c_str) (x := x901) rfl rfl rfl hx9010 hx901 ?_
  refine GX.q (.str x901) ?_
  generalize hc17 : F31_plist_number x901 = c17 at hR
  rcases c17 with _ | c17
  ·try dsimp only at hR
   cases hR
  try dsimp only at hR
  try dsimp only at hR
  refine GX.callp (r := .int .i64 c17) rfl rfl rfl (f31_ok x901 _ hc17) rfl rfl ?_
  iterate 2 refine GX.q (.bool (decide (c17 = 0))) ?_
  refine GX.m rfl ?_
  rcases bool_two (decide (c17 = 0)) with hb3 | hb3
  ·rw [hb3]; first | replace hR := cond_f hb3 hR | (try simp only [hb3, bb] at hR)
   refine GX.m rfl ?_
   generalize hx903 : getI c9 1 = x903 at hR
   rcases x903 with _ | x903
   ·try dsimp only at hR
    cases hR
   try dsimp only at hR
   obtain ⟨hx9030, hx903j, hx903l, hx903⟩ := getI_some hx903
   refine GX.idxT (c := c_str) (x := x903) rfl rfl rfl hx9030 hx903 ?_
   refine GX.q (.str x903) ?_
   refine GX.q (.bool (!(x903.toList == (bstr [112, 101, 114, 109, 105, 116]).toList))) ?_
   refine GX.m rfl ?_
   rcases bool_two (x903.toList == (bstr [112, 101, 114, 109, 105, 116]).toList) with hb5 | hb5
   ·rw [hb5]; first | replace hR := cond_f hb5 hR | (try simp only [hb5, bb] at hR)
    refine GX.m rfl ?_
    refine GX.idxT (c := c_str) (x := x903) rfl rfl rfl hx9030 hx903 ?_
    refine GX.q (.str x903) ?_
    iterate 3 refine GX.q (.bool (!(x903.toList == (bstr [100, 101, 110, 121]).toList))) ?_
    refine GX.done ?_
    rcases bool_two (x903.toList == (bstr [100, 101, 110, 121]).toList) with hb6 | hb6
    ·rw [hb6]; first | replace hR := cond_f hb6 hR | (try simp only [hb6, bb] at hR)
     refine WK.condT rfl ?_
     refine WK.sr mixed ?_
     refine GX.q (.agg [.int .i64 0, .bool false, .int .u32 0, .int .i64 0, .int .i64 0, .int .i64 0]) ?_
     refine GX.step0 (heap' := [(0, .box [.int .i64 0, .bool false, .int .u32 0, .int .i64 0, .int .i64 0, .int .i64 0])]) (next' := 1) rfl rfl rfl rfl rfl ?_
     refine GX.m rfl ?_
     refine GX.done ?_
     refine WK.ret ?_
     obtain rfl := Option.some.inj hR
     exact RetQ.fr [] (.inr rfl) rfl rfl rfl rfl
    ·rw [hb6]; first | replace hR := cond_t hb6 hR | (try simp only [hb6, bb] at hR)
     refine WK.condF rfl ?_
     refine WK.skip ?_
     refine WK.sr mixed ?_
     refine GX.m rfl ?_
     generalize hx906 : getI c9 2 = x906 at hR
     rcases x906 with _ | x906
     ·try dsimp only at hR
      cases hR
     try dsimp only at hR
     obtain ⟨hx9060, hx906j, hx906l, hx906⟩ := getI_some hx906
     refine GX.idxT (c := c_str) (x := x906) rfl rfl rfl hx9060 hx906 ?_
     refine GX.q (.str x906) ?_
     generalize hc37 : F32_addr_Parse x906 = c37 at hR
     rcases c37 with _ | c37
     ·try dsimp only at hR
      cases hR
     try dsimp only at hR
     obtain ⟨c37a, c37b⟩ := c37; try dsimp only at hR
     refine GX.callp (r := .tup [.agg [.int .u32 c37a.A, .int .i64 c37a.N], .int .i64 c37b]) rfl rfl rfl (f32_ok x906 _ hc37) rfl rfl ?_
     refine GX.m rfl ?_
     refine GX.q (.agg [.int .u32 c37a.A, .int .i64 c37a.N]) ?_
     refine GX.q (.int .i64 c37b) ?_
     refine GX.step (v' := .ptr 1 0) (heap' := [(0, .box [.int .i64 0, .bool false, .int .u32 0, .int .i64 0, .int .i64 0, .int .i64 0]), (1, .box [.int .u32 0, .int .i64 0])]) (next' := 2) rfl rfl rfl rfl rfl rfl rfl ?_
     refine GX.step0 (heap' := [(0, .box [.int .i64 0, .bool false, .int .u32 0, .int .i64 0, .int .i64 0, .int .i64 0]), (1, .box (TPrefix.c c37a))]) (next' := 2) rfl rfl rfl rfl rfl ?_
     refine GX.m rfl ?_
     refine GX.done ?_
     refine WK.seq ?_
     refine WK.drawn mixed ?_
     refine RD.m rfl ?_
     refine RD.idxT (c := c_str) (x := x901) rfl rfl rfl hx9010 hx901 ?_
     refine RD.q (.str x901) ?_
     refine RD.callp (r := .int .i64 c17) rfl rfl rfl (f31_ok x901 _ hc17) rfl rfl ?_
     refine RD.m rfl ?_
     refine RD.idxT (c := c_str) (x := x903) rfl rfl rfl hx9030 hx903 ?_
     refine RD.q (.str x903) ?_
     refine RD.q (.bool (x903.toList == (bstr [112, 101, 114, 109, 105, 116]).toList)) ?_
     refine RD.q (.agg (TPrefix.c c37a)) ?_
     refine RD.q (.agg [.int .i64 c17, .bool (x903.toList == (bstr [112, 101, 114, 109, 105, 116]).toList), .int .u32 c37a.A, .int .i64 c37a.N, .int .i64 0, .int .i64 0]) ?_
     refine RD.step (v' := .ptr 2 0) (heap' := [(0, .box [.int .i64 0, .bool false, .int .u32 0, .int .i64 0, .int .i64 0, .int .i64 0]), (1, .box (TPrefix.c c37a)), (2, .box [.int .i64 0, .bool false, .int .u32 0, .int .i64 0, .int .i64 0, .int .i64 0])]) (next' := 3) rfl rfl rfl rfl rfl rfl rfl ?_
     refine RD.step0 (heap' := [(0, .box [.int .i64 0, .bool false, .int .u32 0, .int .i64 0, .int .i64 0, .int .i64 0]), (1, .box (TPrefix.c c37a)), (2, .box [.int .i64 c17, .bool (x903.toList == (bstr [112, 101, 114, 109, 105, 116]).toList), .int .u32 c37a.A, .int .i64 c37a.N, .int .i64 0, .int .i64 0])]) (next' := 3) rfl rfl rfl rfl rfl ?_
     refine RD.done rfl ?_
     refine WK.seq ?_
     refine WK.blockK (fun _ hK8 => ?_)
     refine WK.sr mixed ?_
     refine GX.m rfl ?_
     refine GX.q (.bool (decide (c37b = 3))) ?_
     refine GX.m rfl ?_
     rcases bool_two (decide (c37b = 3)) with hb9 | hb9
     ·rw [hb9]; first | replace hR := cond_f hb9 hR | (try simp only [hb9, bb] at hR)
      refine GX.m rfl ?_
      rcases bool_two (decide ((3 : Int) ≤ (c9.length : Int))) with hg10 | hg10
      ·simp only [hg10, bb] at hR
       try dsimp only at hR
       cases hR
      simp only [hg10, bb] at hR
      have hg10_ := of_decide_eq_true hg10
      refine GX.sliceLo (c := c_str) (M := (c9.drop 3)) rfl rfl rfl (by omega) (by omega) rfl ?_
      generalize hc56 : F33_plist_Rule_limits (⟨c17, (x903.toList == (bstr [112, 101, 114, 109, 105, 116]).toList), c37a, 0, 0⟩ : TRule) (c9.drop 3) = c56 at hR
      rcases c56 with _ | c56
      ·try dsimp only at hR
       cases hR
      try dsimp only at hR
      obtain ⟨c56a, c56b⟩ := c56; try dsimp only at hR
      refine GX.callx (r' := .bool c56a) (heap' := [(0, .box [.int .i64 0, .bool false, .int .u32 0, .int .i64 0, .int .i64 0, .int .i64 0]), (1, .box (TPrefix.c c37a)), (2, .box (TRule.c c56b))]) (next' := 3) [2] [] rfl rfl rfl rfl rfl rfl (f33_ok (⟨c17, (x903.toList == (bstr [112, 101, 114, 109, 105, 116]).toList), c37a, 0, 0⟩ : TRule) (c9.drop 3) _ hc56) (.inl rfl) rfl rfl rfl ?_
      iterate 2 refine GX.q (.bool (!c56a)) ?_
      refine GX.m rfl ?_
      refine GX.done ?_
      rcases bool_two (c56a) with hb12 | hb12
      ·rw [hb12]; first | replace hR := cond_f hb12 hR | (try simp only [hb12, bb] at hR)
       refine WK.condT rfl ?_
       refine WK.sr mixed ?_
       refine GX.q (.agg [.int .i64 0, .bool false, .int .u32 0, .int .i64 0, .int .i64 0, .int .i64 0]) ?_
       refine GX.step0 (heap' := [(0, .box [.int .i64 0, .bool false, .int .u32 0, .int .i64 0, .int .i64 0, .int .i64 0]), (1, .box (TPrefix.c c37a)), (2, .box (TRule.c c56b))]) (next' := 3) rfl rfl rfl rfl rfl ?_
       refine GX.m rfl ?_
       refine GX.done ?_
       refine WK.ret ?_
       refine QF.ret ?_
       obtain rfl := Option.some.inj hR
       exact RetQ.fr [] (.inr rfl) rfl rfl rfl rfl
      ·rw [hb12]; first | replace hR := cond_t hb12 hR | (try simp only [hb12, bb] at hR)
       refine WK.condF rfl ?_
       refine WK.sr mixed ?_
       refine GX.m rfl ?_
       refine GX.q (.bool (!decide (c37b = 0))) ?_
       refine GX.m rfl ?_
       rcases bool_two (decide (c37b = 0)) with hb13 | hb13
       ·rw [hb13]; first | replace hR := cond_f hb13 hR | (try simp only [hb13, bb] at hR)
        iterate 3 refine GX.skip rfl rfl ?_
        refine GX.q (.bool true) ?_
        refine GX.m rfl ?_
        refine GX.done ?_
        refine WK.condT rfl ?_
        refine WK.sr mixed ?_
        refine GX.q (.agg [.int .i64 0, .bool false, .int .u32 0, .int .i64 0, .int .i64 0, .int .i64 0]) ?_
        refine GX.step0 (heap' := [(0, .box [.int .i64 0, .bool false, .int .u32 0, .int .i64 0, .int .i64 0, .int .i64 0]), (1, .box (TPrefix.c c37a)), (2, .box (TRule.c c56b))]) (next' := 3) rfl rfl rfl rfl rfl ?_
        refine GX.m rfl ?_
        refine GX.done ?_
        refine WK.ret ?_
        refine QF.ret ?_
        obtain rfl := Option.some.inj hR
        exact RetQ.fr [] (.inr rfl) rfl rfl rfl rfl
       ·rw [hb13]; first | replace hR := cond_t hb13 hR | (try simp only [hb13, bb] at hR)
        refine GX.q (.agg (TRule.c c56b)) ?_
        generalize hc65 : F10_plist_May c56b = c65 at hR
        try dsimp only at hR
        refine GX.callp (r := .bool c65) rfl rfl rfl (f10_ok c56b _ hc65) rfl rfl ?_
        iterate 2 refine GX.q (.bool (!c65)) ?_
        refine GX.m rfl ?_
        refine GX.done ?_
        rcases bool_two (c65) with hb14 | hb14
        ·rw [hb14]; first | replace hR := cond_f hb14 hR | (try simp only [hb14, bb] at hR)
         refine WK.condT rfl ?_
         refine WK.sr mixed ?_
         refine GX.q (.agg [.int .i64 0, .bool false, .int .u32 0, .int .i64 0, .int .i64 0, .int .i64 0]) ?_
         refine GX.step0 (heap' := [(0, .box [.int .i64 0, .bool false, .int .u32 0, .int .i64 0, .int .i64 0, .int .i64 0]), (1, .box (TPrefix.c c37a)), (2, .box (TRule.c c56b))]) (next' := 3) rfl rfl rfl rfl rfl ?_
         refine GX.m rfl ?_
         refine GX.done ?_
         refine WK.ret ?_
         refine QF.ret ?_
         obtain rfl := Option.some.inj hR
         exact RetQ.fr [] (.inr rfl) rfl rfl rfl rfl
        ·rw [hb14]; first | replace hR := cond_t hb14 hR | (try simp only [hb14, bb] at hR)
         refine WK.condF rfl ?_
         refine WK.skip ?_
         refine WK.nil (QF.normal (hK8 _ ?_))
         refine WK.sr mixed ?_
         refine GX.q (.agg (TRule.c c56b)) ?_
         refine GX.step0 (heap' := [(0, .box (TRule.c c56b)), (1, .box (TPrefix.c c37a)), (2, .box (TRule.c c56b))]) (next' := 3) rfl rfl rfl rfl rfl ?_
         refine GX.m rfl ?_
         refine GX.done ?_
         refine WK.ret ?_
         obtain rfl := Option.some.inj hR
         exact RetQ.fr [] (.inr rfl) rfl rfl rfl rfl
     ·rw [hb9]; first | replace hR := cond_t hb9 hR | (try simp only [hb9, bb] at hR)
      iterate 4 refine GX.skip rfl rfl ?_
      refine GX.q (.bool true) ?_
      refine GX.m rfl ?_
      refine GX.done ?_
      refine WK.condT rfl ?_
      refine WK.sr mixed ?_
      refine GX.q (.agg [.int .i64 0, .bool false, .int .u32 0, .int .i64 0, .int .i64 0, .int .i64 0]) ?_
      refine GX.step0 (heap' := [(0, .box [.int .i64 0, .bool false, .int .u32 0, .int .i64 0, .int .i64 0, .int .i64 0]), (1, .box (TPrefix.c c37a)), (2, .box [.int .i64 c17, .bool (x903.toList == (bstr [112, 101, 114, 109, 105, 116]).toList), .int .u32 c37a.A, .int .i64 c37a.N, .int .i64 0, .int .i64 0])]) (next' := 3) rfl rfl rfl rfl rfl ?_
      refine GX.m rfl ?_
      refine GX.done ?_
      refine WK.ret ?_
      refine QF.ret ?_
      obtain rfl := Option.some.inj hR
      exact RetQ.fr [] (.inr rfl) rfl rfl rfl rfl
   ·rw [hb5]; first | replace hR := cond_t hb5 hR | (try simp only [hb5, bb] at hR)
    iterate 4 refine GX.skip rfl rfl ?_
    iterate 2 refine GX.q (.bool false) ?_
    refine GX.done ?_
    refine WK.condF rfl ?_
    refine WK.skip ?_
    refine WK.sr mixed ?_
    refine GX.m rfl ?_
    generalize hx914 : getI c9 2 = x914 at hR
    rcases x914 with _ | x914
    ·try dsimp only at hR
     cases hR
    try dsimp only at hR
    obtain ⟨hx9140, hx914j, hx914l, hx914⟩ := getI_some hx914
    refine GX.idxT (c := c_str) (x := x914) rfl rfl rfl hx9140 hx914 ?_
    refine GX.q (.str x914) ?_
    generalize hc37 : F32_addr_Parse x914 = c37 at hR
    rcases c37 with _ | c37
    ·try dsimp only at hR
     cases hR
    try dsimp only at hR
    obtain ⟨c37a, c37b⟩ := c37; try dsimp only at hR
    refine GX.callp (r := .tup [.agg [.int .u32 c37a.A, .int .i64 c37a.N], .int .i64 c37b]) rfl rfl rfl (f32_ok x914 _ hc37) rfl rfl ?_
    refine GX.m rfl ?_
    refine GX.q (.agg [.int .u32 c37a.A, .int .i64 c37a.N]) ?_
    refine GX.q (.int .i64 c37b) ?_
    refine GX.step (v' := .ptr 1 0) (heap' := [(0, .box [.int .i64 0, .bool false, .int .u32 0, .int .i64 0, .int .i64 0, .int .i64 0]), (1, .box [.int .u32 0, .int .i64 0])]) (next' := 2) rfl rfl rfl rfl rfl rfl rfl ?_
    refine GX.step0 (heap' := [(0, .box [.int .i64 0, .bool false, .int .u32 0, .int .i64 0, .int .i64 0, .int .i64 0]), (1, .box (TPrefix.c c37a))]) (next' := 2) rfl rfl rfl rfl rfl ?_
    refine GX.m rfl ?_
    refine GX.done ?_
    refine WK.seq ?_
    refine WK.drawn mixed ?_
    refine RD.m rfl ?_
    refine RD.idxT (c := c_str) (x := x901) rfl rfl rfl hx9010 hx901 ?_
    refine RD.q (.str x901) ?_
    refine RD.callp (r := .int .i64 c17) rfl rfl rfl (f31_ok x901 _ hc17) rfl rfl ?_
    refine RD.m rfl ?_
    refine RD.idxT (c := c_str) (x := x903) rfl rfl rfl hx9030 hx903 ?_
    refine RD.q (.str x903) ?_
    refine RD.q (.bool (x903.toList == (bstr [112, 101, 114, 109, 105, 116]).toList)) ?_
    refine RD.q (.agg (TPrefix.c c37a)) ?_
    refine RD.q (.agg [.int .i64 c17, .bool (x903.toList == (bstr [112, 101, 114, 109, 105, 116]).toList), .int .u32 c37a.A, .int .i64 c37a.N, .int .i64 0, .int .i64 0]) ?_
    refine RD.step (v' := .ptr 2 0) (heap' := [(0, .box [.int .i64 0, .bool false, .int .u32 0, .int .i64 0, .int .i64 0, .int .i64 0]), (1, .box (TPrefix.c c37a)), (2, .box [.int .i64 0, .bool false, .int .u32 0, .int .i64 0, .int .i64 0, .int .i64 0])]) (next' := 3) rfl rfl rfl rfl rfl rfl rfl ?_
    refine RD.step0 (heap' := [(0, .box [.int .i64 0, .bool false, .int .u32 0, .int .i64 0, .int .i64 0, .int .i64 0]), (1, .box (TPrefix.c c37a)), (2, .box [.int .i64 c17, .bool (x903.toList == (bstr [112, 101, 114, 109, 105, 116]).toList), .int .u32 c37a.A, .int .i64 c37a.N, .int .i64 0, .int .i64 0])]) (next' := 3) rfl rfl rfl rfl rfl ?_
    refine RD.done rfl ?_
    refine WK.seq ?_
    refine WK.blockK (fun _ hK16 => ?_)
    refine WK.sr mixed ?_
    refine GX.m rfl ?_
    refine GX.q (.bool (decide (c37b = 3))) ?_
    refine GX.m rfl ?_
    rcases bool_two (decide (c37b = 3)) with hb17 | hb17
    ·rw [hb17]; first | replace hR := cond_f hb17 hR | (try simp only [hb17, bb] at hR)
     refine GX.m rfl ?_
     rcases bool_two (decide ((3 : Int) ≤ (c9.length : Int))) with hg18 | hg18
     ·simp only [hg18, bb] at hR
      try dsimp only at hR
      cases hR
     simp only [hg18, bb] at hR
     have hg18_ := of_decide_eq_true hg18
     refine GX.sliceLo (c := c_str) (M := (c9.drop 3)) rfl rfl rfl (by omega) (by omega) rfl ?_
     generalize hc56 : F33_plist_Rule_limits (⟨c17, (x903.toList == (bstr [112, 101, 114, 109, 105, 116]).toList), c37a, 0, 0⟩ : TRule) (c9.drop 3) = c56 at hR
     rcases c56 with _ | c56
     ·try dsimp only at hR
      cases hR
     try dsimp only at hR
     obtain ⟨c56a, c56b⟩ := c56; try dsimp only at hR
     refine GX.callx (r' := .bool c56a) (heap' := [(0, .box [.int .i64 0, .bool false, .int .u32 0, .int .i64 0, .int .i64 0, .int .i64 0]), (1, .box (TPrefix.c c37a)), (2, .box (TRule.c c56b))]) (next' := 3) [2] [] rfl rfl rfl rfl rfl rfl (f33_ok (⟨c17, (x903.toList == (bstr [112, 101, 114, 109, 105, 116]).toList), c37a, 0, 0⟩ : TRule) (c9.drop 3) _ hc56) (.inl rfl) rfl rfl rfl ?_
     iterate 2 refine GX.q (.bool (!c56a)) ?_
     refine GX.m rfl ?_
     refine GX.done ?_
     rcases bool_two (c56a) with hb20 | hb20
     ·rw [hb20]; first | replace hR := cond_f hb20 hR | (try simp only [hb20, bb] at hR)
      refine WK.condT rfl ?_
      refine WK.sr mixed ?_
      refine GX.q (.agg [.int .i64 0, .bool false, .int .u32 0, .int .i64 0, .int .i64 0, .int .i64 0]) ?_
      refine GX.step0 (heap' := [(0, .box [.int .i64 0, .bool false, .int .u32 0, .int .i64 0, .int .i64 0, .int .i64 0]), (1, .box (TPrefix.c c37a)), (2, .box (TRule.c c56b))]) (next' := 3) rfl rfl rfl rfl rfl ?_
      refine GX.m rfl ?_
      refine GX.done ?_
      refine WK.ret ?_
      refine QF.ret ?_
      obtain rfl := Option.some.inj hR
      exact RetQ.fr [] (.inr rfl) rfl rfl rfl rfl
     ·rw [hb20]; first | replace hR := cond_t hb20 hR | (try simp only [hb20, bb] at hR)
      refine WK.condF rfl ?_
      refine WK.sr mixed ?_
      refine GX.m rfl ?_
      refine GX.q (.bool (!decide (c37b = 0))) ?_
      refine GX.m rfl ?_
      rcases bool_two (decide (c37b = 0)) with hb21 | hb21
      ·rw [hb21]; first | replace hR := cond_f hb21 hR | (try simp only [hb21, bb] at hR)
       iterate 3 refine GX.skip rfl rfl ?_
       refine GX.q (.bool true) ?_
       refine GX.m rfl ?_
       refine GX.done ?_
       refine WK.condT rfl ?_
       refine WK.sr mixed ?_
       refine GX.q (.agg [.int .i64 0, .bool false, .int .u32 0, .int .i64 0, .int .i64 0, .int .i64 0]) ?_
       refine GX.step0 (heap' := [(0, .box [.int .i64 0, .bool false, .int .u32 0, .int .i64 0, .int .i64 0, .int .i64 0]), (1, .box (TPrefix.c c37a)), (2, .box (TRule.c c56b))]) (next' := 3) rfl rfl rfl rfl rfl ?_
       refine GX.m rfl ?_
       refine GX.done ?_
       refine WK.ret ?_
       refine QF.ret ?_
       obtain rfl := Option.some.inj hR
       exact RetQ.fr [] (.inr rfl) rfl rfl rfl rfl
      ·rw [hb21]; first | replace hR := cond_t hb21 hR | (try simp only [hb21, bb] at hR)
       refine GX.q (.agg (TRule.c c56b)) ?_
       generalize hc65 : F10_plist_May c56b = c65 at hR
       try dsimp only at hR
       refine GX.callp (r := .bool c65) rfl rfl rfl (f10_ok c56b _ hc65) rfl rfl ?_
       iterate 2 refine GX.q (.bool (!c65)) ?_
       refine GX.m rfl ?_
       refine GX.done ?_
       rcases bool_two (c65) with hb22 | hb22
       ·rw [hb22]; first | replace hR := cond_f hb22 hR | (try simp only [hb22, bb] at hR)
        refine WK.condT rfl ?_
        refine WK.sr mixed ?_
        refine GX.q (.agg [.int .i64 0, .bool false, .int .u32 0, .int .i64 0, .int .i64 0, .int .i64 0]) ?_
        refine GX.step0 (heap' := [(0, .box [.int .i64 0, .bool false, .int .u32 0, .int .i64 0, .int .i64 0, .int .i64 0]), (1, .box (TPrefix.c c37a)), (2, .box (TRule.c c56b))]) (next' := 3) rfl rfl rfl rfl rfl ?_
        refine GX.m rfl ?_
        refine GX.done ?_
        refine WK.ret ?_
        refine QF.ret ?_
        obtain rfl := Option.some.inj hR
        exact RetQ.fr [] (.inr rfl) rfl rfl rfl rfl
       ·rw [hb22]; first | replace hR := cond_t hb22 hR | (try simp only [hb22, bb] at hR)
        refine WK.condF rfl ?_
        refine WK.skip ?_
        refine WK.nil (QF.normal (hK16 _ ?_))
        refine WK.sr mixed ?_
        refine GX.q (.agg (TRule.c c56b)) ?_
        refine GX.step0 (heap' := [(0, .box (TRule.c c56b)), (1, .box (TPrefix.c c37a)), (2, .box (TRule.c c56b))]) (next' := 3) rfl rfl rfl rfl rfl ?_
        refine GX.m rfl ?_
        refine GX.done ?_
        refine WK.ret ?_
        obtain rfl := Option.some.inj hR
        exact RetQ.fr [] (.inr rfl) rfl rfl rfl rfl
    ·rw [hb17]; first | replace hR := cond_t hb17 hR | (try simp only [hb17, bb] at hR)
     iterate 4 refine GX.skip rfl rfl ?_
     refine GX.q (.bool true) ?_
     refine GX.m rfl ?_
     refine GX.done ?_
     refine WK.condT rfl ?_
     refine WK.sr mixed ?_
     refine GX.q (.agg [.int .i64 0, .bool false, .int .u32 0, .int .i64 0, .int .i64 0, .int .i64 0]) ?_
     refine GX.step0 (heap' := [(0, .box [.int .i64 0, .bool false, .int .u32 0, .int .i64 0, .int .i64 0, .int .i64 0]), (1, .box (TPrefix.c c37a)), (2, .box [.int .i64 c17, .bool (x903.toList == (bstr [112, 101, 114, 109, 105, 116]).toList), .int .u32 c37a.A, .int .i64 c37a.N, .int .i64 0, .int .i64 0])]) (next' := 3) rfl rfl rfl rfl rfl ?_
     refine GX.m rfl ?_
     refine GX.done ?_
     refine WK.ret ?_
     refine QF.ret ?_
     obtain rfl := Option.some.inj hR
     exact RetQ.fr [] (.inr rfl) rfl rfl rfl rfl
  ·rw [hb3]; first | replace hR := cond_t hb3 hR | (try simp only [hb3, bb] at hR)
   iterate 10 refine GX.skip rfl rfl ?_
   refine GX.q (.bool true) ?_
   refine GX.done ?_
   refine WK.condT rfl ?_
   refine WK.sr mixed ?_
   refine GX.q (.agg [.int .i64 0, .bool false, .int .u32 0, .int .i64 0, .int .i64 0, .int .i64 0]) ?_
   refine GX.step0 (heap' := [(0, .box [.int .i64 0, .bool false, .int .u32 0, .int .i64 0, .int .i64 0, .int .i64 0])]) (next' := 1) rfl rfl rfl rfl rfl ?_
   refine GX.m rfl ?_
   refine GX.done ?_
   refine WK.ret ?_
   obtain rfl := Option.some.inj hR
   exact RetQ.fr [] (.inr rfl) rfl rfl rfl rfl
 ·rw [hb1]; first | replace hR := cond_t hb1 hR | (try simp only [hb1, bb] at hR)
  iterate 5 refine GX.skip rfl rfl ?_
  refine GX.q (.bool true) ?_
  refine GX.m rfl ?_
  iterate 10 refine GX.skip rfl rfl ?_
  refine GX.q (.bool true) ?_
  refine GX.done ?_
  refine WK.condT rfl ?_
  refine WK.sr mixed ?_
  refine GX.q (.agg [.int .i64 0, .bool false, .int .u32 0, .int .i64 0, .int .i64 0, .int .i64 0]) ?_
  refine GX.step0 (heap' := [(0, .box [.int .i64 0, .bool false, .int .u32 0, .int .i64 0, .int .i64 0, .int .i64 0])]) (next' := 1) rfl rfl rfl rfl rfl ?_
  refine GX.m rfl ?_
  refine GX.done ?_
  refine WK.ret ?_
  obtain rfl := Option.some.inj hR
  exact RetQ.fr [] (.inr rfl) rfl rfl rfl rfl

theorem f35_ok (p0 : TPrefix) (R : ByteArray) (hR : F35_addr_Text p0 = some R) : FnOk Tryz.prog 35 [.agg (TPrefix.c p0)] [] 0 (.str R) [] 0 := by
 refine FnOk.wk i35 rfl rfl ?_
 unfold F35_addr_Text at hR
 try dsimp only at hR
 change WK _ _ _ [ac35] _ ⟨[(0, .agg (TPrefix.c p0))], [], 0⟩
 unfold ac35
 refine WK.sr mixed ?_
 refine GX.step (v' := .ptr 0 0) (heap' := [(0, .box (TPrefix.c p0))]) (next' := 1) rfl rfl rfl rfl rfl rfl rfl ?_
 refine GX.m rfl ?_
 refine GX.done ?_
 refine WK.sr mixed ?_
 refine GX.m rfl ?_
 refine GX.done ?_
 refine WK.seq ?_
 refine WK.sr mixed ?_
 refine GX.m rfl ?_
 refine GX.done ?_
 refine WK.unroll 6 (WU.go ?_)
 refine WK.seq ?_
 refine WK.sr mixed ?_
 refine GX.m rfl ?_
 refine GX.q (.bool true) ?_
 refine GX.done ?_
 refine WK.condT rfl ?_
 refine WK.skip ?_
 refine WK.seq ?_
 refine WK.blockK (fun _ hK2 => ?_)
 refine WK.regx mixed ?_
 refine GX.m rfl ?_
 refine GX.q (.ptr 0 0) ?_
 refine GX.q (.int .u32 p0.A) ?_
 refine GX.m rfl ?_
 refine GX.q (.int .u32 (Int.fdiv p0.A (2 ^ 24))) ?_
 refine GX.q (.int .u32 (bit_and .u32 (Int.fdiv p0.A (2 ^ 24)) 255)) ?_
 refine GX.q (.int .i64 (IntKind.i64.wrap (bit_and .u32 (Int.fdiv p0.A (2 ^ 24)) 255))) ?_
 generalize hc16 : itoaO (IntKind.i64.wrap (bit_and .u32 (Int.fdiv p0.A (2 ^ 24)) 255)) = c16 at hR
 rcases c16 with _ | c16
 ·try dsimp only at hR
  cases hR
 try dsimp only at hR
 try dsimp only at hR
 refine GX.callp (r := .str c16) rfl rfl rfl (f34_ok (IntKind.i64.wrap (bit_and .u32 (Int.fdiv p0.A (2 ^ 24)) 255)) _ hc16) rfl rfl ?_
 refine GX.step (v' := .own 1 1 0 (([c16] : List ByteArray)).length) (heap' := [(0, .box (TPrefix.c p0)), (1, .row 1 9 (([c16] : List ByteArray).map c_str))]) (next' := 2) rfl rfl rfl rfl rfl rfl rfl ?_
 refine GX.appnil (c := c_str) (X := ([c16] : List ByteArray)) (heap' := [(0, .box (TPrefix.c p0)), (1, .row 1 9 (([c16] : List ByteArray).map c_str)), (2, .row 1 9 (([c16] : List ByteArray).map c_str))]) (next' := 3) rfl rfl rfl (elems_own rfl) (by ((try simp only [List.length_append, List.length_cons, List.length_nil, List.length_map, decide_eq_true_eq, decide_eq_false_iff_not] at *) <;> omega)) (by ((try simp only [List.length_append, List.length_cons, List.length_nil, List.length_map, decide_eq_true_eq, decide_eq_false_iff_not] at *) <;> omega)) rfl rfl ?_
 refine GX.m rfl ?_
 refine GX.done ?_
 refine WK.nil (QF.normal (hK2 _ ?_))
 refine WK.regx mixed ?_
 refine GX.m rfl ?_
 refine GX.q (.int .i64 16) ?_
 refine GX.m rfl ?_
 refine GX.done ?_
 refine WK.nil (QF.normal (WU.go ?_))
 refine WK.seq ?_
 refine WK.sr mixed ?_
 refine GX.m rfl ?_
 refine GX.q (.bool true) ?_
 refine GX.done ?_
 refine WK.condT rfl ?_
 refine WK.skip ?_
 refine WK.seq ?_
 refine WK.blockK (fun _ hK3 => ?_)
 refine WK.regx mixed ?_
 refine GX.m rfl ?_
 refine GX.q (.ptr 0 0) ?_
 refine GX.q (.int .u32 p0.A) ?_
 refine GX.m rfl ?_
 refine GX.q (.int .u32 (Int.fdiv p0.A (2 ^ 16))) ?_
 refine GX.q (.int .u32 (bit_and .u32 (Int.fdiv p0.A (2 ^ 16)) 255)) ?_
 refine GX.q (.int .i64 (IntKind.i64.wrap (bit_and .u32 (Int.fdiv p0.A (2 ^ 16)) 255))) ?_
 generalize hc16x : itoaO (IntKind.i64.wrap (bit_and .u32 (Int.fdiv p0.A (2 ^ 16)) 255)) = c16x at hR
 rcases c16x with _ | c16x
 ·try dsimp only at hR
  cases hR
 try dsimp only at hR
 try dsimp only at hR
 refine GX.callp (r := .str c16x) rfl rfl rfl (f34_ok (IntKind.i64.wrap (bit_and .u32 (Int.fdiv p0.A (2 ^ 16)) 255)) _ hc16x) rfl rfl ?_
 refine GX.step (v' := .own 3 1 0 (([c16x] : List ByteArray)).length) (heap' := [(0, .box (TPrefix.c p0)), (1, .row 1 9 (([c16] : List ByteArray).map c_str)), (2, .row 1 9 (([c16] : List ByteArray).map c_str)), (3, .row 1 9 (([c16x] : List ByteArray).map c_str))]) (next' := 4) rfl rfl rfl rfl rfl rfl rfl ?_
 refine GX.appT (c := c_str) (L := ([c16] : List ByteArray)) (X := ([c16x] : List ByteArray)) (heap' := [(0, .box (TPrefix.c p0)), (1, .row 1 9 (([c16] : List ByteArray).map c_str)), (3, .row 1 9 (([c16x] : List ByteArray).map c_str)), (4, .row 1 9 ((([c16] : List ByteArray) ++ ([c16x] : List ByteArray)).map c_str))]) (next' := 5) rfl rfl rfl rfl (elems_own rfl) (by ((try simp only [List.length_append, List.length_cons, List.length_nil, List.length_map, decide_eq_true_eq, decide_eq_false_iff_not] at *) <;> omega)) (by ((try simp only [List.length_append, List.length_cons, List.length_nil, List.length_map, decide_eq_true_eq, decide_eq_false_iff_not] at *) <;> omega)) rfl rfl rfl rfl ?_
 refine GX.m rfl ?_
 refine GX.done ?_
 refine WK.nil (QF.normal (hK3 _ ?_))
 refine WK.regx mixed ?_
 refine GX.m rfl ?_
 refine GX.q (.int .i64 8) ?_
 refine GX.m rfl ?_
 refine GX.done ?_
 refine WK.nil (QF.normal (WU.go ?_))
 refine WK.seq ?_
 refine WK.sr mixed ?_
 refine GX.m rfl ?_
 refine GX.q (.bool true) ?_
 refine GX.done ?_
 refine WK.condT rfl ?_
 refine WK.skip ?_
 refine WK.seq ?_
 refine WK.blockK (fun _ hK4 => ?_)
 refine WK.regx mixed ?_
 refine GX.m rfl ?_
 refine GX.q (.ptr 0 0) ?_
 refine GX.q (.int .u32 p0.A) ?_
 refine GX.m rfl ?_
 refine GX.q (.int .u32 (Int.fdiv p0.A (2 ^ 8))) ?_
 refine GX.q (.int .u32 (bit_and .u32 (Int.fdiv p0.A (2 ^ 8)) 255)) ?_
 refine GX.q (.int .i64 (IntKind.i64.wrap (bit_and .u32 (Int.fdiv p0.A (2 ^ 8)) 255))) ?_
 generalize hc16xx : itoaO (IntKind.i64.wrap (bit_and .u32 (Int.fdiv p0.A (2 ^ 8)) 255)) = c16xx at hR
 rcases c16xx with _ | c16xx
 ·try dsimp only at hR
  cases hR
 try dsimp only at hR
 try dsimp only at hR
 refine GX.callp (r := .str c16xx) rfl rfl rfl (f34_ok (IntKind.i64.wrap (bit_and .u32 (Int.fdiv p0.A (2 ^ 8)) 255)) _ hc16xx) rfl rfl ?_
 refine GX.step (v' := .own 5 1 0 (([c16xx] : List ByteArray)).length) (heap' := [(0, .box (TPrefix.c p0)), (1, .row 1 9 (([c16] : List ByteArray).map c_str)), (3, .row 1 9 (([c16x] : List ByteArray).map c_str)), (4, .row 1 9 ((([c16] : List ByteArray) ++ ([c16x] : List ByteArray)).map c_str)), (5, .row 1 9 (([c16xx] : List ByteArray).map c_str))]) (next' := 6) rfl rfl rfl rfl rfl rfl rfl ?_
 rcases bool_two (decide ((([c16] : List ByteArray) ++ ([c16x] : List ByteArray)).length < 1099511627776)) with hg5 | hg5
 ·simp only [hg5, bb] at hR
  try dsimp only at hR
  cases hR
 simp only [hg5, bb] at hR
 have hg5_ := of_decide_eq_true hg5
 refine GX.appT (c := c_str) (L := (([c16] : List ByteArray) ++ ([c16x] : List ByteArray))) (X := ([c16xx] : List ByteArray)) (heap' := [(0, .box (TPrefix.c p0)), (1, .row 1 9 (([c16] : List ByteArray).map c_str)), (3, .row 1 9 (([c16x] : List ByteArray).map c_str)), (5, .row 1 9 (([c16xx] : List ByteArray).map c_str)), (6, .row 1 9 (((([c16] : List ByteArray) ++ ([c16x] : List ByteArray)) ++ ([c16xx] : List ByteArray)).map c_str))]) (next' := 7) rfl rfl rfl rfl (elems_own rfl) (by ((try simp only [List.length_append, List.length_cons, List.length_nil, List.length_map, decide_eq_true_eq, decide_eq_false_iff_not] at *) <;> omega)) (by ((try simp only [List.length_append, List.length_cons, List.length_nil, List.length_map, decide_eq_true_eq, decide_eq_false_iff_not] at *) <;> omega)) rfl rfl rfl rfl ?_
 refine GX.m rfl ?_
 refine GX.done ?_
 refine WK.nil (QF.normal (hK4 _ ?_))
 refine WK.regx mixed ?_
 refine GX.m rfl ?_
 refine GX.q (.int .i64 0) ?_
 refine GX.m rfl ?_
 refine GX.done ?_
 refine WK.nil (QF.normal (WU.go ?_))
 refine WK.seq ?_
 refine WK.sr mixed ?_
 refine GX.m rfl ?_
 refine GX.q (.bool true) ?_
 refine GX.done ?_
 refine WK.condT rfl ?_
 refine WK.skip ?_
 refine WK.seq ?_
 refine WK.blockK (fun _ hK6 => ?_)
 refine WK.regx mixed ?_
 refine GX.m rfl ?_
 refine GX.q (.ptr 0 0) ?_
 refine GX.q (.int .u32 p0.A) ?_
 refine GX.m rfl ?_
 refine GX.q (.int .u32 (Int.fdiv p0.A (2 ^ 0))) ?_
 refine GX.q (.int .u32 (bit_and .u32 (Int.fdiv p0.A (2 ^ 0)) 255)) ?_
 refine GX.q (.int .i64 (IntKind.i64.wrap (bit_and .u32 (Int.fdiv p0.A (2 ^ 0)) 255))) ?_
 generalize hc16xxx : itoaO (IntKind.i64.wrap (bit_and .u32 (Int.fdiv p0.A (2 ^ 0)) 255)) = c16xxx at hR
 rcases c16xxx with _ | c16xxx
 ·try dsimp only at hR
  cases hR
 try dsimp only at hR
 try dsimp only at hR
 refine GX.callp (r := .str c16xxx) rfl rfl rfl (f34_ok (IntKind.i64.wrap (bit_and .u32 (Int.fdiv p0.A (2 ^ 0)) 255)) _ hc16xxx) rfl rfl ?_
 refine GX.step (v' := .own 7 1 0 (([c16xxx] : List ByteArray)).length) (heap' := [(0, .box (TPrefix.c p0)), (1, .row 1 9 (([c16] : List ByteArray).map c_str)), (3, .row 1 9 (([c16x] : List ByteArray).map c_str)), (5, .row 1 9 (([c16xx] : List ByteArray).map c_str)), (6, .row 1 9 (((([c16] : List ByteArray) ++ ([c16x] : List ByteArray)) ++ ([c16xx] : List ByteArray)).map c_str)), (7, .row 1 9 (([c16xxx] : List ByteArray).map c_str))]) (next' := 8) rfl rfl rfl rfl rfl rfl rfl ?_
 rcases bool_two (decide (((([c16] : List ByteArray) ++ ([c16x] : List ByteArray)) ++ ([c16xx] : List ByteArray)).length < 1099511627776)) with hg7 | hg7
 ·simp only [hg7, bb] at hR
  try dsimp only at hR
  cases hR
 simp only [hg7, bb] at hR
 have hg7_ := of_decide_eq_true hg7
 refine GX.appT (c := c_str) (L := ((([c16] : List ByteArray) ++ ([c16x] : List ByteArray)) ++ ([c16xx] : List ByteArray))) (X := ([c16xxx] : List ByteArray)) (heap' := [(0, .box (TPrefix.c p0)), (1, .row 1 9 (([c16] : List ByteArray).map c_str)), (3, .row 1 9 (([c16x] : List ByteArray).map c_str)), (5, .row 1 9 (([c16xx] : List ByteArray).map c_str)), (7, .row 1 9 (([c16xxx] : List ByteArray).map c_str)), (8, .row 1 9 ((((([c16] : List ByteArray) ++ ([c16x] : List ByteArray)) ++ ([c16xx] : List ByteArray)) ++ ([c16xxx] : List ByteArray)).map c_str))]) (next' := 9) rfl rfl rfl rfl (elems_own rfl) (by ((try simp only [List.length_append, List.length_cons, List.length_nil, List.length_map, decide_eq_true_eq, decide_eq_false_iff_not] at *) <;> omega)) (by ((try simp only [List.length_append, List.length_cons, List.length_nil, List.length_map, decide_eq_true_eq, decide_eq_false_iff_not] at *) <;> omega)) rfl rfl rfl rfl ?_
 refine GX.m rfl ?_
 refine GX.done ?_
 refine WK.nil (QF.normal (hK6 _ ?_))
 refine WK.regx mixed ?_
 refine GX.m rfl ?_
 refine GX.q (.int .i64 (-8)) ?_
 refine GX.m rfl ?_
 refine GX.done ?_
 refine WK.nil (QF.normal (WU.go ?_))
 refine WK.seq ?_
 refine WK.sr mixed ?_
 refine GX.m rfl ?_
 refine GX.q (.bool false) ?_
 refine GX.done ?_
 refine WK.condF rfl ?_
 refine WK.exit ?_
 refine QF.exit ?_
 refine WK.seq ?_
 refine WK.drawn mixed ?_
 refine RD.m rfl ?_
 generalize hc20 : joinO (((([c16] : List ByteArray) ++ ([c16x] : List ByteArray)) ++ ([c16xx] : List ByteArray)) ++ ([c16xxx] : List ByteArray)) (bstr [46]) = c20 at hR
 rcases c20 with _ | c20
 ·try dsimp only at hR
  cases hR
 try dsimp only at hR
 try dsimp only at hR
 refine RD.callbp (r := .str c20) [8] rfl rfl rfl (viewGo_cons (view_rowT rfl rfl) (viewGo_cons rfl viewGo_nil)) (f36_ok (((([c16] : List ByteArray) ++ ([c16x] : List ByteArray)) ++ ([c16xx] : List ByteArray)) ++ ([c16xxx] : List ByteArray)) (bstr [46]) _ hc20) rfl rfl ?_
 rcases bool_two (decide (c20.size + (bstr [47]).size ≤ 9223372036854775807)) with hg8 | hg8
 ·simp only [hg8, bb] at hR
  try dsimp only at hR
  cases hR
 simp only [hg8, bb] at hR
 have hg8_ := of_decide_eq_true hg8
 refine RD.pure (v' := .str (c20 ++ (bstr [47]))) rfl rfl rfl (core_addS (by omega)) rfl ?_
 refine RD.q (.ptr 0 1) ?_
 refine RD.q (.int .i64 p0.N) ?_
 generalize hc24 : itoaO p0.N = c24 at hR
 rcases c24 with _ | c24
 ·try dsimp only at hR
  cases hR
 try dsimp only at hR
 try dsimp only at hR
 refine RD.callp (r := .str c24) rfl rfl rfl (f34_ok p0.N _ hc24) rfl rfl ?_
 rcases bool_two (decide ((c20 ++ (bstr [47])).size + c24.size ≤ 9223372036854775807)) with hg9 | hg9
 ·simp only [hg9, bb] at hR
  try dsimp only at hR
  cases hR
 simp only [hg9, bb] at hR
 have hg9_ := of_decide_eq_true hg9
 refine RD.pure (v' := .str ((c20 ++ (bstr [47])) ++ c24)) rfl rfl rfl (core_addS (by omega)) rfl ?_
 refine RD.m rfl ?_
 refine RD.done rfl ?_
 refine WK.ret ?_
 obtain rfl := Option.some.inj hR
 exact RetQ.fr [] (.inr rfl) rfl rfl rfl rfl

theorem f9_ok (x0 : TRule) (R : ByteArray) (hR : F9_plist_Text x0 = some R) : FnOk Tryz.prog 9 [.agg (TRule.c x0)] [] 0 (.str R) [] 0 := by
 refine FnOk.wk i9 rfl rfl ?_
 unfold F9_plist_Text at hR
 try dsimp only at hR
 change WK _ _ _ [ac9] _ ⟨[(0, .agg (TRule.c x0))], [], 0⟩
 unfold ac9
 refine WK.sr mixed ?_
 refine GX.step (v' := .ptr 0 0) (heap' := [(0, .box (TRule.c x0))]) (next' := 1) rfl rfl rfl rfl rfl rfl rfl ?_
 refine GX.m rfl ?_
 refine GX.done ?_
 refine WK.seq ?_
 refine WK.drawn mixed ?_
 refine RD.q (.ptr 0 0) ?_
 refine RD.q (.int .i64 x0.Seq) ?_
 generalize hc6 : itoaO x0.Seq = c6 at hR
 rcases c6 with _ | c6
 ·try dsimp only at hR
  cases hR
 try dsimp only at hR
 try dsimp only at hR
 refine RD.callp (r := .str c6) rfl rfl rfl (f34_ok x0.Seq _ hc6) rfl rfl ?_
 refine RD.q (.ptr 0 2) ?_
 refine RD.q (.agg [.int .u32 x0.P.A, .int .i64 x0.P.N]) ?_
 generalize hc9 : F35_addr_Text x0.P = c9 at hR
 rcases c9 with _ | c9
 ·try dsimp only at hR
  cases hR
 try dsimp only at hR
 try dsimp only at hR
 refine RD.callp (r := .str c9) rfl rfl rfl (f35_ok x0.P _ hc9) rfl rfl ?_
 refine RD.step (v' := .own 1 1 0 (([c6, (bstr [100, 101, 110, 121]), c9] : List ByteArray)).length) (heap' := [(0, .box (TRule.c x0)), (1, .row 1 9 (([c6, (bstr [100, 101, 110, 121]), c9] : List ByteArray).map c_str))]) (next' := 2) rfl rfl rfl rfl rfl rfl rfl ?_
 refine RD.m rfl ?_
 refine RD.done rfl ?_
 refine WK.seq ?_
 refine WK.sr mixed ?_
 refine GX.q (.ptr 0 1) ?_
 refine GX.q (.bool x0.Permit) ?_
 refine GX.done ?_
 rcases bool_two (x0.Permit) with hb1 | hb1
 ·rw [hb1]; first | replace hR := cond_f hb1 hR | (try simp only [hb1, bb] at hR)
  refine WK.condF rfl ?_
  refine WK.skip ?_
  refine WK.seq ?_
  refine WK.sr mixed ?_
  refine GX.q (.ptr 0 4) ?_
  refine GX.q (.int .i64 x0.Ge) ?_
  refine GX.q (.bool (!decide (x0.Ge = 0))) ?_
  refine GX.done ?_
  rcases bool_two (decide (x0.Ge = 0)) with hb2 | hb2
  ·rw [hb2]; first | replace hR := cond_f hb2 hR | (try simp only [hb2, bb] at hR)
   refine WK.condT rfl ?_
   refine WK.regx mixed ?_
   refine GX.m rfl ?_
   refine GX.q (.ptr 0 4) ?_
   refine GX.q (.int .i64 x0.Ge) ?_
   generalize hc21 : itoaO x0.Ge = c21 at hR
   rcases c21 with _ | c21
   ·try dsimp only at hR
    cases hR
   try dsimp only at hR
   try dsimp only at hR
   refine GX.callp (r := .str c21) rfl rfl rfl (f34_ok x0.Ge _ hc21) rfl rfl ?_
   refine GX.step (v' := .own 2 1 0 (([(bstr [103, 101]), c21] : List ByteArray)).length) (heap' := [(0, .box (TRule.c x0)), (1, .row 1 9 (([c6, (bstr [100, 101, 110, 121]), c9] : List ByteArray).map c_str)), (2, .row 1 9 (([(bstr [103, 101]), c21] : List ByteArray).map c_str))]) (next' := 3) rfl rfl rfl rfl rfl rfl rfl ?_
   refine GX.appT (c := c_str) (L := ([c6, (bstr [100, 101, 110, 121]), c9] : List ByteArray)) (X := ([(bstr [103, 101]), c21] : List ByteArray)) (heap' := [(0, .box (TRule.c x0)), (2, .row 1 9 (([(bstr [103, 101]), c21] : List ByteArray).map c_str)), (3, .row 1 9 ((([c6, (bstr [100, 101, 110, 121]), c9] : List ByteArray) ++ ([(bstr [103, 101]), c21] : List ByteArray)).map c_str))]) (next' := 4) rfl rfl rfl rfl (elems_own rfl) (by ((try simp only [List.length_append, List.length_cons, List.length_nil, List.length_map, decide_eq_true_eq, decide_eq_false_iff_not] at *) <;> omega)) (by ((try simp only [List.length_append, List.length_cons, List.length_nil, List.length_map, decide_eq_true_eq, decide_eq_false_iff_not] at *) <;> omega)) rfl rfl rfl rfl ?_
   refine GX.m rfl ?_
   refine GX.done ?_
   refine WK.seq ?_
   refine WK.sr mixed ?_
   refine GX.q (.ptr 0 5) ?_
   refine GX.q (.int .i64 x0.Le) ?_
   refine GX.q (.bool (!decide (x0.Le = 0))) ?_
   refine GX.done ?_
   rcases bool_two (decide (x0.Le = 0)) with hb3 | hb3
   ·rw [hb3]; first | replace hR := cond_f hb3 hR | (try simp only [hb3, bb] at hR)
    refine WK.condT rfl ?_
    refine WK.regx mixed ?_
    refine GX.m rfl ?_
    refine GX.q (.ptr 0 5) ?_
    refine GX.q (.int .i64 x0.Le) ?_
    generalize hc30 : itoaO x0.Le = c30 at hR
    rcases c30 with _ | c30
    ·try dsimp only at hR
     cases hR
    try dsimp only at hR
    try dsimp only at hR
    refine GX.callp (r := .str c30) rfl rfl rfl (f34_ok x0.Le _ hc30) rfl rfl ?_
    refine GX.step (v' := .own 4 1 0 (([(bstr [108, 101]), c30] : List ByteArray)).length) (heap' := [(0, .box (TRule.c x0)), (2, .row 1 9 (([(bstr [103, 101]), c21] : List ByteArray).map c_str)), (3, .row 1 9 ((([c6, (bstr [100, 101, 110, 121]), c9] : List ByteArray) ++ ([(bstr [103, 101]), c21] : List ByteArray)).map c_str)), (4, .row 1 9 (([(bstr [108, 101]), c30] : List ByteArray).map c_str))]) (next' := 5) rfl rfl rfl rfl rfl rfl rfl ?_
    rcases bool_two (decide ((([c6, (bstr [100, 101, 110, 121]), c9] : List ByteArray) ++ ([(bstr [103, 101]), c21] : List ByteArray)).length < 1099511627776)) with hg4 | hg4
    ·simp only [hg4, bb] at hR
     try dsimp only at hR
     cases hR
    simp only [hg4, bb] at hR
    have hg4_ := of_decide_eq_true hg4
    refine GX.appT (c := c_str) (L := (([c6, (bstr [100, 101, 110, 121]), c9] : List ByteArray) ++ ([(bstr [103, 101]), c21] : List ByteArray))) (X := ([(bstr [108, 101]), c30] : List ByteArray)) (heap' := [(0, .box (TRule.c x0)), (2, .row 1 9 (([(bstr [103, 101]), c21] : List ByteArray).map c_str)), (4, .row 1 9 (([(bstr [108, 101]), c30] : List ByteArray).map c_str)), (5, .row 1 9 (((([c6, (bstr [100, 101, 110, 121]), c9] : List ByteArray) ++ ([(bstr [103, 101]), c21] : List ByteArray)) ++ ([(bstr [108, 101]), c30] : List ByteArray)).map c_str))]) (next' := 6) rfl rfl rfl rfl (elems_own rfl) (by ((try simp only [List.length_append, List.length_cons, List.length_nil, List.length_map, decide_eq_true_eq, decide_eq_false_iff_not] at *) <;> omega)) (by ((try simp only [List.length_append, List.length_cons, List.length_nil, List.length_map, decide_eq_true_eq, decide_eq_false_iff_not] at *) <;> omega)) rfl rfl rfl rfl ?_
    refine GX.m rfl ?_
    refine GX.done ?_
    refine WK.sr mixed ?_
    refine GX.m rfl ?_
    generalize hc34 : joinO ((([c6, (bstr [100, 101, 110, 121]), c9] : List ByteArray) ++ ([(bstr [103, 101]), c21] : List ByteArray)) ++ ([(bstr [108, 101]), c30] : List ByteArray)) (bstr [32]) = c34 at hR
    rcases c34 with _ | c34
    ·try dsimp only at hR
     cases hR
    try dsimp only at hR
    try dsimp only at hR
    refine GX.callbp (r := .str c34) [5] rfl rfl rfl (viewGo_cons (view_rowT rfl rfl) (viewGo_cons rfl viewGo_nil)) (f36_ok ((([c6, (bstr [100, 101, 110, 121]), c9] : List ByteArray) ++ ([(bstr [103, 101]), c21] : List ByteArray)) ++ ([(bstr [108, 101]), c30] : List ByteArray)) (bstr [32]) _ hc34) rfl rfl ?_
    refine GX.m rfl ?_
    refine GX.done ?_
    refine WK.ret ?_
    obtain rfl := Option.some.inj hR
    exact RetQ.fr [] (.inr rfl) rfl rfl rfl rfl
   ·rw [hb3]; first | replace hR := cond_t hb3 hR | (try simp only [hb3, bb] at hR)
    refine WK.condF rfl ?_
    refine WK.skip ?_
    refine WK.sr mixed ?_
    refine GX.m rfl ?_
    generalize hc34 : joinO (([c6, (bstr [100, 101, 110, 121]), c9] : List ByteArray) ++ ([(bstr [103, 101]), c21] : List ByteArray)) (bstr [32]) = c34 at hR
    rcases c34 with _ | c34
    ·try dsimp only at hR
     cases hR
    try dsimp only at hR
    try dsimp only at hR
    refine GX.callbp (r := .str c34) [3] rfl rfl rfl (viewGo_cons (view_rowT rfl rfl) (viewGo_cons rfl viewGo_nil)) (f36_ok (([c6, (bstr [100, 101, 110, 121]), c9] : List ByteArray) ++ ([(bstr [103, 101]), c21] : List ByteArray)) (bstr [32]) _ hc34) rfl rfl ?_
    refine GX.m rfl ?_
    refine GX.done ?_
    refine WK.ret ?_
    obtain rfl := Option.some.inj hR
    exact RetQ.fr [] (.inr rfl) rfl rfl rfl rfl
  ·rw [hb2]; first | replace hR := cond_t hb2 hR | (try simp only [hb2, bb] at hR)
   refine WK.condF rfl ?_
   refine WK.skip ?_
   refine WK.seq ?_
   refine WK.sr mixed ?_
   refine GX.q (.ptr 0 5) ?_
   refine GX.q (.int .i64 x0.Le) ?_
   refine GX.q (.bool (!decide (x0.Le = 0))) ?_
   refine GX.done ?_
   rcases bool_two (decide (x0.Le = 0)) with hb5 | hb5
   ·rw [hb5]; first | replace hR := cond_f hb5 hR | (try simp only [hb5, bb] at hR)
    refine WK.condT rfl ?_
    refine WK.regx mixed ?_
    refine GX.m rfl ?_
    refine GX.q (.ptr 0 5) ?_
    refine GX.q (.int .i64 x0.Le) ?_
    generalize hc30 : itoaO x0.Le = c30 at hR
    rcases c30 with _ | c30
    ·try dsimp only at hR
     cases hR
    try dsimp only at hR
    try dsimp only at hR
    refine GX.callp (r := .str c30) rfl rfl rfl (f34_ok x0.Le _ hc30) rfl rfl ?_
    refine GX.step (v' := .own 2 1 0 (([(bstr [108, 101]), c30] : List ByteArray)).length) (heap' := [(0, .box (TRule.c x0)), (1, .row 1 9 (([c6, (bstr [100, 101, 110, 121]), c9] : List ByteArray).map c_str)), (2, .row 1 9 (([(bstr [108, 101]), c30] : List ByteArray).map c_str))]) (next' := 3) rfl rfl rfl rfl rfl rfl rfl ?_
    refine GX.appT (c := c_str) (L := ([c6, (bstr [100, 101, 110, 121]), c9] : List ByteArray)) (X := ([(bstr [108, 101]), c30] : List ByteArray)) (heap' := [(0, .box (TRule.c x0)), (2, .row 1 9 (([(bstr [108, 101]), c30] : List ByteArray).map c_str)), (3, .row 1 9 ((([c6, (bstr [100, 101, 110, 121]), c9] : List ByteArray) ++ ([(bstr [108, 101]), c30] : List ByteArray)).map c_str))]) (next' := 4) rfl rfl rfl rfl (elems_own rfl) (by ((try simp only [List.length_append, List.length_cons, List.length_nil, List.length_map, decide_eq_true_eq, decide_eq_false_iff_not] at *) <;> omega)) (by ((try simp only [List.length_append, List.length_cons, List.length_nil, List.length_map, decide_eq_true_eq, decide_eq_false_iff_not] at *) <;> omega)) rfl rfl rfl rfl ?_
    refine GX.m rfl ?_
    refine GX.done ?_
    refine WK.sr mixed ?_
    refine GX.m rfl ?_
    generalize hc34 : joinO (([c6, (bstr [100, 101, 110, 121]), c9] : List ByteArray) ++ ([(bstr [108, 101]), c30] : List ByteArray)) (bstr [32]) = c34 at hR
    rcases c34 with _ | c34
    ·try dsimp only at hR
     cases hR
    try dsimp only at hR
    try dsimp only at hR
    refine GX.callbp (r := .str c34) [3] rfl rfl rfl (viewGo_cons (view_rowT rfl rfl) (viewGo_cons rfl viewGo_nil)) (f36_ok (([c6, (bstr [100, 101, 110, 121]), c9] : List ByteArray) ++ ([(bstr [108, 101]), c30] : List ByteArray)) (bstr [32]) _ hc34) rfl rfl ?_
    refine GX.m rfl ?_
    refine GX.done ?_
    refine WK.ret ?_
    obtain rfl := Option.some.inj hR
    exact RetQ.fr [] (.inr rfl) rfl rfl rfl rfl
   ·rw [hb5]; first | replace hR := cond_t hb5 hR | (try simp only [hb5, bb] at hR)
    refine WK.condF rfl ?_
    refine WK.skip ?_
    refine WK.sr mixed ?_
    refine GX.m rfl ?_
    generalize hc34 : joinO ([c6, (bstr [100, 101, 110, 121]), c9] : List ByteArray) (bstr [32]) = c34 at hR
    rcases c34 with _ | c34
    ·try dsimp only at hR
     cases hR
    try dsimp only at hR
    try dsimp only at hR
    refine GX.callbp (r := .str c34) [1] rfl rfl rfl (viewGo_cons (view_rowT rfl rfl) (viewGo_cons rfl viewGo_nil)) (f36_ok ([c6, (bstr [100, 101, 110, 121]), c9] : List ByteArray) (bstr [32]) _ hc34) rfl rfl ?_
    refine GX.m rfl ?_
    refine GX.done ?_
    refine WK.ret ?_
    obtain rfl := Option.some.inj hR
    exact RetQ.fr [] (.inr rfl) rfl rfl rfl rfl
 ·rw [hb1]; first | replace hR := cond_t hb1 hR | (try simp only [hb1, bb] at hR)
  refine WK.condT rfl ?_
  refine WK.regx mixed ?_
  refine GX.m rfl ?_
  generalize hx905 : getI ([c6, (bstr [100, 101, 110, 121]), c9] : List ByteArray) 1 = x905 at hR
  rcases x905 with _ | x905
  ·try dsimp only at hR
   cases hR
  try dsimp only at hR
  obtain ⟨hx9050, hx905j, hx905l, hx905⟩ := getI_some hx905
  refine GX.pure (v' := .eptr 1 1 1 0) rfl rfl rfl (core_idxoT (c := c_str) (L := ([c6, (bstr [100, 101, 110, 121]), c9] : List ByteArray)) (j := 1) rfl hx905j hx905l (by exact Nat.le_refl _)) rfl ?_
  refine GX.step0 (heap' := [(0, .box (TRule.c x0)), (1, .row 1 9 ((([c6, (bstr [100, 101, 110, 121]), c9] : List ByteArray).set 1 (bstr [112, 101, 114, 109, 105, 116])).map c_str))]) (next' := 2) rfl rfl (core_stoT (c := c_str) (L := ([c6, (bstr [100, 101, 110, 121]), c9] : List ByteArray)) (x := x905) (x' := (bstr [112, 101, 114, 109, 105, 116])) rfl hx905 rfl rfl rfl rfl rfl) rfl rfl ?_
  refine GX.done ?_
  refine WK.seq ?_
  refine WK.sr mixed ?_
  refine GX.q (.ptr 0 4) ?_
  refine GX.q (.int .i64 x0.Ge) ?_
  refine GX.q (.bool (!decide (x0.Ge = 0))) ?_
  refine GX.done ?_
  rcases bool_two (decide (x0.Ge = 0)) with hb7 | hb7
  ·rw [hb7]; first | replace hR := cond_f hb7 hR | (try simp only [hb7, bb] at hR)
   refine WK.condT rfl ?_
   refine WK.regx mixed ?_
   refine GX.m rfl ?_
   refine GX.q (.ptr 0 4) ?_
   refine GX.q (.int .i64 x0.Ge) ?_
   generalize hc21 : itoaO x0.Ge = c21 at hR
   rcases c21 with _ | c21
   ·try dsimp only at hR
    cases hR
   try dsimp only at hR
   try dsimp only at hR
   refine GX.callp (r := .str c21) rfl rfl rfl (f34_ok x0.Ge _ hc21) rfl rfl ?_
   refine GX.step (v' := .own 2 1 0 (([(bstr [103, 101]), c21] : List ByteArray)).length) (heap' := [(0, .box (TRule.c x0)), (1, .row 1 9 ((([c6, (bstr [100, 101, 110, 121]), c9] : List ByteArray).set 1 (bstr [112, 101, 114, 109, 105, 116])).map c_str)), (2, .row 1 9 (([(bstr [103, 101]), c21] : List ByteArray).map c_str))]) (next' := 3) rfl rfl rfl rfl rfl rfl rfl ?_
   rcases bool_two (decide ((([c6, (bstr [100, 101, 110, 121]), c9] : List ByteArray).set 1 (bstr [112, 101, 114, 109, 105, 116])).length < 1099511627776)) with hg8 | hg8
   ·simp only [hg8, bb] at hR
    try dsimp only at hR
    cases hR
   simp only [hg8, bb] at hR
   have hg8_ := of_decide_eq_true hg8
   refine GX.appT (c := c_str) (L := (([c6, (bstr [100, 101, 110, 121]), c9] : List ByteArray).set 1 (bstr [112, 101, 114, 109, 105, 116]))) (X := ([(bstr [103, 101]), c21] : List ByteArray)) (heap' := [(0, .box (TRule.c x0)), (2, .row 1 9 (([(bstr [103, 101]), c21] : List ByteArray).map c_str)), (3, .row 1 9 (((([c6, (bstr [100, 101, 110, 121]), c9] : List ByteArray).set 1 (bstr [112, 101, 114, 109, 105, 116])) ++ ([(bstr [103, 101]), c21] : List ByteArray)).map c_str))]) (next' := 4) rfl rfl rfl rfl (elems_own rfl) (by ((try simp only [List.length_append, List.length_cons, List.length_nil, List.length_map, decide_eq_true_eq, decide_eq_false_iff_not] at *) <;> omega)) (by ((try simp only [List.length_append, List.length_cons, List.length_nil, List.length_map, decide_eq_true_eq, decide_eq_false_iff_not] at *) <;> omega)) (by simp) rfl rfl rfl ?_
   refine GX.m rfl ?_
   refine GX.done ?_
   refine WK.seq ?_
   refine WK.sr mixed ?_
   refine GX.q (.ptr 0 5) ?_
   refine GX.q (.int .i64 x0.Le) ?_
   refine GX.q (.bool (!decide (x0.Le = 0))) ?_
   refine GX.done ?_
   rcases bool_two (decide (x0.Le = 0)) with hb9 | hb9
   ·rw [hb9]; first | replace hR := cond_f hb9 hR | (try simp only [hb9, bb] at hR)
    refine WK.condT rfl ?_
    refine WK.regx mixed ?_
    refine GX.m rfl ?_
    refine GX.q (.ptr 0 5) ?_
    refine GX.q (.int .i64 x0.Le) ?_
    generalize hc30 : itoaO x0.Le = c30 at hR
    rcases c30 with _ | c30
    ·try dsimp only at hR
     cases hR
    try dsimp only at hR
    try dsimp only at hR
    refine GX.callp (r := .str c30) rfl rfl rfl (f34_ok x0.Le _ hc30) rfl rfl ?_
    refine GX.step (v' := .own 4 1 0 (([(bstr [108, 101]), c30] : List ByteArray)).length) (heap' := [(0, .box (TRule.c x0)), (2, .row 1 9 (([(bstr [103, 101]), c21] : List ByteArray).map c_str)), (3, .row 1 9 (((([c6, (bstr [100, 101, 110, 121]), c9] : List ByteArray).set 1 (bstr [112, 101, 114, 109, 105, 116])) ++ ([(bstr [103, 101]), c21] : List ByteArray)).map c_str)), (4, .row 1 9 (([(bstr [108, 101]), c30] : List ByteArray).map c_str))]) (next' := 5) rfl rfl rfl rfl rfl rfl rfl ?_
    rcases bool_two (decide (((([c6, (bstr [100, 101, 110, 121]), c9] : List ByteArray).set 1 (bstr [112, 101, 114, 109, 105, 116])) ++ ([(bstr [103, 101]), c21] : List ByteArray)).length < 1099511627776)) with hg10 | hg10
    ·simp only [hg10, bb] at hR
     try dsimp only at hR
     cases hR
    simp only [hg10, bb] at hR
    have hg10_ := of_decide_eq_true hg10
    refine GX.appT (c := c_str) (L := ((([c6, (bstr [100, 101, 110, 121]), c9] : List ByteArray).set 1 (bstr [112, 101, 114, 109, 105, 116])) ++ ([(bstr [103, 101]), c21] : List ByteArray))) (X := ([(bstr [108, 101]), c30] : List ByteArray)) (heap' := [(0, .box (TRule.c x0)), (2, .row 1 9 (([(bstr [103, 101]), c21] : List ByteArray).map c_str)), (4, .row 1 9 (([(bstr [108, 101]), c30] : List ByteArray).map c_str)), (5, .row 1 9 ((((([c6, (bstr [100, 101, 110, 121]), c9] : List ByteArray).set 1 (bstr [112, 101, 114, 109, 105, 116])) ++ ([(bstr [103, 101]), c21] : List ByteArray)) ++ ([(bstr [108, 101]), c30] : List ByteArray)).map c_str))]) (next' := 6) rfl rfl rfl rfl (elems_own rfl) (by ((try simp only [List.length_append, List.length_cons, List.length_nil, List.length_map, decide_eq_true_eq, decide_eq_false_iff_not] at *) <;> omega)) (by ((try simp only [List.length_append, List.length_cons, List.length_nil, List.length_map, decide_eq_true_eq, decide_eq_false_iff_not] at *) <;> omega)) rfl rfl rfl rfl ?_
    refine GX.m rfl ?_
    refine GX.done ?_
    refine WK.sr mixed ?_
    refine GX.m rfl ?_
    generalize hc34 : joinO (((([c6, (bstr [100, 101, 110, 121]), c9] : List ByteArray).set 1 (bstr [112, 101, 114, 109, 105, 116])) ++ ([(bstr [103, 101]), c21] : List ByteArray)) ++ ([(bstr [108, 101]), c30] : List ByteArray)) (bstr [32]) = c34 at hR
    rcases c34 with _ | c34
    ·try dsimp only at hR
     cases hR
    try dsimp only at hR
    try dsimp only at hR
    refine GX.callbp (r := .str c34) [5] rfl rfl rfl (viewGo_cons (view_rowT rfl rfl) (viewGo_cons rfl viewGo_nil)) (f36_ok (((([c6, (bstr [100, 101, 110, 121]), c9] : List ByteArray).set 1 (bstr [112, 101, 114, 109, 105, 116])) ++ ([(bstr [103, 101]), c21] : List ByteArray)) ++ ([(bstr [108, 101]), c30] : List ByteArray)) (bstr [32]) _ hc34) rfl rfl ?_
    refine GX.m rfl ?_
    refine GX.done ?_
    refine WK.ret ?_
    obtain rfl := Option.some.inj hR
    exact RetQ.fr [] (.inr rfl) rfl rfl rfl rfl
   ·rw [hb9]; first | replace hR := cond_t hb9 hR | (try simp only [hb9, bb] at hR)
    refine WK.condF rfl ?_
    refine WK.skip ?_
    refine WK.sr mixed ?_
    refine GX.m rfl ?_
    generalize hc34 : joinO ((([c6, (bstr [100, 101, 110, 121]), c9] : List ByteArray).set 1 (bstr [112, 101, 114, 109, 105, 116])) ++ ([(bstr [103, 101]), c21] : List ByteArray)) (bstr [32]) = c34 at hR
    rcases c34 with _ | c34
    ·try dsimp only at hR
     cases hR
    try dsimp only at hR
    try dsimp only at hR
    refine GX.callbp (r := .str c34) [3] rfl rfl rfl (viewGo_cons (view_rowT rfl rfl) (viewGo_cons rfl viewGo_nil)) (f36_ok ((([c6, (bstr [100, 101, 110, 121]), c9] : List ByteArray).set 1 (bstr [112, 101, 114, 109, 105, 116])) ++ ([(bstr [103, 101]), c21] : List ByteArray)) (bstr [32]) _ hc34) rfl rfl ?_
    refine GX.m rfl ?_
    refine GX.done ?_
    refine WK.ret ?_
    obtain rfl := Option.some.inj hR
    exact RetQ.fr [] (.inr rfl) rfl rfl rfl rfl
  ·rw [hb7]; first | replace hR := cond_t hb7 hR | (try simp only [hb7, bb] at hR)
   refine WK.condF rfl ?_
   refine WK.skip ?_
   refine WK.seq ?_
   refine WK.sr mixed ?_
   refine GX.q (.ptr 0 5) ?_
   refine GX.q (.int .i64 x0.Le) ?_
   refine GX.q (.bool (!decide (x0.Le = 0))) ?_
   refine GX.done ?_
   rcases bool_two (decide (x0.Le = 0)) with hb11 | hb11
   ·rw [hb11]; first | replace hR := cond_f hb11 hR | (try simp only [hb11, bb] at hR)
    refine WK.condT rfl ?_
    refine WK.regx mixed ?_
    refine GX.m rfl ?_
    refine GX.q (.ptr 0 5) ?_
    refine GX.q (.int .i64 x0.Le) ?_
    generalize hc30 : itoaO x0.Le = c30 at hR
    rcases c30 with _ | c30
    ·try dsimp only at hR
     cases hR
    try dsimp only at hR
    try dsimp only at hR
    refine GX.callp (r := .str c30) rfl rfl rfl (f34_ok x0.Le _ hc30) rfl rfl ?_
    refine GX.step (v' := .own 2 1 0 (([(bstr [108, 101]), c30] : List ByteArray)).length) (heap' := [(0, .box (TRule.c x0)), (1, .row 1 9 ((([c6, (bstr [100, 101, 110, 121]), c9] : List ByteArray).set 1 (bstr [112, 101, 114, 109, 105, 116])).map c_str)), (2, .row 1 9 (([(bstr [108, 101]), c30] : List ByteArray).map c_str))]) (next' := 3) rfl rfl rfl rfl rfl rfl rfl ?_
    rcases bool_two (decide ((([c6, (bstr [100, 101, 110, 121]), c9] : List ByteArray).set 1 (bstr [112, 101, 114, 109, 105, 116])).length < 1099511627776)) with hg12 | hg12
    ·simp only [hg12, bb] at hR
     try dsimp only at hR
     cases hR
    simp only [hg12, bb] at hR
    have hg12_ := of_decide_eq_true hg12
    refine GX.appT (c := c_str) (L := (([c6, (bstr [100, 101, 110, 121]), c9] : List ByteArray).set 1 (bstr [112, 101, 114, 109, 105, 116]))) (X := ([(bstr [108, 101]), c30] : List ByteArray)) (heap' := [(0, .box (TRule.c x0)), (2, .row 1 9 (([(bstr [108, 101]), c30] : List ByteArray).map c_str)), (3, .row 1 9 (((([c6, (bstr [100, 101, 110, 121]), c9] : List ByteArray).set 1 (bstr [112, 101, 114, 109, 105, 116])) ++ ([(bstr [108, 101]), c30] : List ByteArray)).map c_str))]) (next' := 4) rfl rfl rfl rfl (elems_own rfl) (by ((try simp only [List.length_append, List.length_cons, List.length_nil, List.length_map, decide_eq_true_eq, decide_eq_false_iff_not] at *) <;> omega)) (by ((try simp only [List.length_append, List.length_cons, List.length_nil, List.length_map, decide_eq_true_eq, decide_eq_false_iff_not] at *) <;> omega)) (by simp) rfl rfl rfl ?_
    refine GX.m rfl ?_
    refine GX.done ?_
    refine WK.sr mixed ?_
    refine GX.m rfl ?_
    generalize hc34 : joinO ((([c6, (bstr [100, 101, 110, 121]), c9] : List ByteArray).set 1 (bstr [112, 101, 114, 109, 105, 116])) ++ ([(bstr [108, 101]), c30] : List ByteArray)) (bstr [32]) = c34 at hR
    rcases c34 with _ | c34
    ·try dsimp only at hR
     cases hR
    try dsimp only at hR
    try dsimp only at hR
    refine GX.callbp (r := .str c34) [3] rfl rfl rfl (viewGo_cons (view_rowT rfl rfl) (viewGo_cons rfl viewGo_nil)) (f36_ok ((([c6, (bstr [100, 101, 110, 121]), c9] : List ByteArray).set 1 (bstr [112, 101, 114, 109, 105, 116])) ++ ([(bstr [108, 101]), c30] : List ByteArray)) (bstr [32]) _ hc34) rfl rfl ?_
    refine GX.m rfl ?_
    refine GX.done ?_
    refine WK.ret ?_
    obtain rfl := Option.some.inj hR
    exact RetQ.fr [] (.inr rfl) rfl rfl rfl rfl
   ·rw [hb11]; first | replace hR := cond_t hb11 hR | (try simp only [hb11, bb] at hR)
    refine WK.condF rfl ?_
    refine WK.skip ?_
    refine WK.sr mixed ?_
    refine GX.m rfl ?_
    generalize hc34 : joinO (([c6, (bstr [100, 101, 110, 121]), c9] : List ByteArray).set 1 (bstr [112, 101, 114, 109, 105, 116])) (bstr [32]) = c34 at hR
    rcases c34 with _ | c34
    ·try dsimp only at hR
     cases hR
    try dsimp only at hR
    try dsimp only at hR
    refine GX.callbp (r := .str c34) [1] rfl rfl rfl (viewGo_cons (view_rowM rfl rfl (by simp)) (viewGo_cons rfl viewGo_nil)) (f36_ok (([c6, (bstr [100, 101, 110, 121]), c9] : List ByteArray).set 1 (bstr [112, 101, 114, 109, 105, 116])) (bstr [32]) _ hc34) rfl rfl ?_
    refine GX.m rfl ?_
    refine GX.done ?_
    refine WK.ret ?_
    obtain rfl := Option.some.inj hR
    exact RetQ.fr [] (.inr rfl) rfl rfl rfl rfl

theorem f39_ok (x0 : TRule) (R : Int × Int) (hR : F39_plist_Rule_bounds x0 = R) : FnOk Tryz.prog 39 [.agg (TRule.c x0)] [] 0 (.tup [.int .i64 R.1, .int .i64 R.2]) [] 0 := by
 refine FnOk.wk i39 rfl rfl ?_
 unfold F39_plist_Rule_bounds at hR
 change WK _ _ _ [ac39] _ ⟨[(0, .agg (TRule.c x0))], [], 0⟩
 unfold ac39
 refine WK.sr mixed ?_
 refine GX.step (v' := .ptr 0 0) (heap' := [(0, .box (TRule.c x0))]) (next' := 1) rfl rfl rfl rfl rfl rfl rfl ?_
 iterate 2 refine GX.m rfl ?_
 refine GX.done ?_
 refine WK.seq ?_
 refine WK.blockK (fun _ hK1 => ?_)
 refine WK.sr mixed ?_
 refine GX.q (.ptr 0 4) ?_
 refine GX.q (.int .i64 x0.Ge) ?_
 refine GX.q (.bool (decide (x0.Ge = 0))) ?_
 refine GX.m rfl ?_
 rcases bool_two (decide (x0.Ge = 0)) with hb2 | hb2
 ·rw [hb2]; try simp only [hb2, bb] at hR
  iterate 3 refine GX.skip rfl rfl ?_
  refine GX.q (.bool false) ?_
  refine GX.m rfl ?_
  refine GX.done ?_
  refine WK.condF rfl ?_
  refine WK.sr mixed ?_
  refine GX.q (.ptr 0 4) ?_
  refine GX.q (.int .i64 x0.Ge) ?_
  refine GX.q (.bool (decide (x0.Ge = 0))) ?_
  refine GX.m rfl ?_
  refine GX.done ?_
  rw [hb2]
  refine WK.condF rfl ?_
  refine WK.sr mixed ?_
  refine GX.q (.ptr 0 5) ?_
  refine GX.q (.int .i64 x0.Le) ?_
  refine GX.q (.bool (decide (x0.Le = 0))) ?_
  refine GX.m rfl ?_
  refine GX.done ?_
  rcases bool_two (decide (x0.Le = 0)) with hb3 | hb3
  ·rw [hb3]; try simp only [hb3, bb] at hR
   refine WK.condF rfl ?_
   refine WK.skip ?_
   refine WK.nil (QF.normal (hK1 _ ?_))
   refine WK.seq ?_
   refine WK.drawn mixed ?_
   refine RD.q (.ptr 0 4) ?_
   refine RD.q (.int .i64 x0.Ge) ?_
   refine RD.q (.ptr 0 5) ?_
   refine RD.q (.int .i64 x0.Le) ?_
   iterate 2 refine RD.m rfl ?_
   refine RD.done rfl ?_
   refine WK.ret ?_
   subst hR
   exact RetQ.fr [] (.inr rfl) rfl rfl rfl rfl
  ·rw [hb3]; try simp only [hb3, bb] at hR
   refine WK.condT rfl ?_
   refine WK.sr mixed ?_
   refine GX.q (.ptr 0 4) ?_
   refine GX.q (.int .i64 x0.Ge) ?_
   iterate 2 refine GX.m rfl ?_
   refine GX.done ?_
   refine WK.ret ?_
   refine QF.ret ?_
   subst hR
   exact RetQ.fr [] (.inr rfl) rfl rfl rfl rfl
 ·rw [hb2]; try simp only [hb2, bb] at hR
  refine GX.q (.ptr 0 5) ?_
  refine GX.q (.int .i64 x0.Le) ?_
  iterate 2 refine GX.q (.bool (decide (x0.Le = 0))) ?_
  refine GX.m rfl ?_
  refine GX.done ?_
  rcases bool_two (decide (x0.Le = 0)) with hb4 | hb4
  ·rw [hb4]; try simp only [hb4, bb] at hR
   refine WK.condF rfl ?_
   refine WK.sr mixed ?_
   refine GX.q (.ptr 0 4) ?_
   refine GX.q (.int .i64 x0.Ge) ?_
   refine GX.q (.bool (decide (x0.Ge = 0))) ?_
   refine GX.m rfl ?_
   refine GX.done ?_
   rw [hb2]
   refine WK.condT rfl ?_
   refine WK.seq ?_
   refine WK.drawn mixed ?_
   refine RD.q (.ptr 0 2) ?_
   refine RD.q (.ptr 0 3) ?_
   refine RD.q (.int .i64 x0.P.N) ?_
   refine RD.q (.ptr 0 5) ?_
   refine RD.q (.int .i64 x0.Le) ?_
   iterate 2 refine RD.m rfl ?_
   refine RD.done rfl ?_
   refine WK.ret ?_
   refine QF.ret ?_
   subst hR
   exact RetQ.fr [] (.inr rfl) rfl rfl rfl rfl
  ·rw [hb4]; try simp only [hb4, bb] at hR
   refine WK.condT rfl ?_
   refine WK.seq ?_
   refine WK.drawn mixed ?_
   refine RD.q (.ptr 0 2) ?_
   refine RD.q (.ptr 0 3) ?_
   refine RD.q (.int .i64 x0.P.N) ?_
   refine RD.q (.ptr 0 2) ?_
   refine RD.q (.ptr 0 3) ?_
   refine RD.q (.int .i64 x0.P.N) ?_
   iterate 2 refine RD.m rfl ?_
   refine RD.done rfl ?_
   refine WK.ret ?_
   refine QF.ret ?_
   subst hR
   exact RetQ.fr [] (.inr rfl) rfl rfl rfl rfl

theorem f70_ok (p0 : TPrefix) (a1 : Int) (R : Bool) (hR : F70_addr_Has p0 a1 = R) : FnOk Tryz.prog 70 [.agg (TPrefix.c p0), .int .u32 a1] [] 0 (.bool R) [] 0 := by
 refine FnOk.wk i70 rfl rfl ?_
 unfold F70_addr_Has at hR
 change WK _ _ _ [ac70] _ ⟨[(0, .agg (TPrefix.c p0)), (1, .int .u32 a1)], [], 0⟩
 unfold ac70
 refine WK.sr mixed ?_
 refine GX.step (v' := .ptr 0 0) (heap' := [(0, .box (TPrefix.c p0))]) (next' := 1) rfl rfl rfl rfl rfl rfl rfl ?_
 refine GX.m rfl ?_
 refine GX.done ?_
 refine WK.seq ?_
 refine WK.drawn mixed ?_
 refine RD.q (.agg (TPrefix.c p0)) ?_
 generalize hc6 : F37_addr_May p0 = c6 at hR
 try dsimp only at hR
 refine RD.callp (r := .bool c6) rfl rfl rfl (f37_ok p0 _ hc6) rfl rfl ?_
 refine RD.m rfl ?_
 rcases bool_two (c6) with hb1 | hb1
 ·rw [hb1]; try simp only [hb1, bb] at hR
  iterate 8 refine RD.skip rfl rfl ?_
  refine RD.q (.bool false) ?_
  refine RD.m rfl ?_
  refine RD.done rfl ?_
  refine WK.ret ?_
  subst hR
  exact RetQ.fr [] (.inr rfl) rfl rfl rfl rfl
 ·rw [hb1]; try simp only [hb1, bb] at hR
  refine RD.m rfl ?_
  refine RD.q (.ptr 0 1) ?_
  refine RD.q (.int .i64 p0.N) ?_
  generalize hc11 : F68_addr_Mask p0.N = c11 at hR
  try dsimp only at hR
  refine RD.callp (r := .int .u32 c11) rfl rfl rfl (f68_ok p0.N _ hc11) rfl rfl ?_
  refine RD.q (.int .u32 (bit_and .u32 a1 c11)) ?_
  refine RD.q (.ptr 0 0) ?_
  refine RD.q (.int .u32 p0.A) ?_
  iterate 2 refine RD.q (.bool (decide (bit_and .u32 a1 c11 = p0.A))) ?_
  refine RD.m rfl ?_
  refine RD.done rfl ?_
  refine WK.ret ?_
  subst hR
  exact RetQ.fr [] (.inr rfl) rfl rfl rfl rfl

theorem f40_ok (p0 : TPrefix) (q1 : TPrefix) (R : Bool) (hR : F40_addr_Covers p0 q1 = R) : FnOk Tryz.prog 40 [.agg (TPrefix.c p0), .agg (TPrefix.c q1)] [] 0 (.bool R) [] 0 := by
 refine FnOk.wk i40 rfl rfl ?_
 unfold F40_addr_Covers at hR
 change WK _ _ _ [ac40] _ ⟨[(0, .agg (TPrefix.c p0)), (1, .agg (TPrefix.c q1))], [], 0⟩
 unfold ac40
 refine WK.sr mixed ?_
 refine GX.step (v' := .ptr 0 0) (heap' := [(0, .box (TPrefix.c p0))]) (next' := 1) rfl rfl rfl rfl rfl rfl rfl ?_
 refine GX.step (v' := .ptr 1 0) (heap' := [(0, .box (TPrefix.c p0)), (1, .box (TPrefix.c q1))]) (next' := 2) rfl rfl rfl rfl rfl rfl rfl ?_
 refine GX.m rfl ?_
 refine GX.done ?_
 refine WK.sr mixed ?_
 refine GX.q (.agg (TPrefix.c q1)) ?_
 generalize hc6 : F37_addr_May q1 = c6 at hR
 try dsimp only at hR
 refine GX.callp (r := .bool c6) rfl rfl rfl (f37_ok q1 _ hc6) rfl rfl ?_
 refine GX.m rfl ?_
 rcases bool_two (c6) with hb1 | hb1
 ·rw [hb1]; try simp only [hb1, bb] at hR
  iterate 5 refine GX.skip rfl rfl ?_
  refine GX.q (.bool false) ?_
  refine GX.m rfl ?_
  iterate 4 refine GX.skip rfl rfl ?_
  refine GX.q (.bool false) ?_
  refine GX.m rfl ?_
  refine GX.done ?_
  refine WK.ret ?_
  subst hR
  exact RetQ.fr [] (.inr rfl) rfl rfl rfl rfl
 ·rw [hb1]; try simp only [hb1, bb] at hR
  refine GX.q (.ptr 0 1) ?_
  refine GX.q (.int .i64 p0.N) ?_
  refine GX.q (.ptr 1 1) ?_
  refine GX.q (.int .i64 q1.N) ?_
  iterate 2 refine GX.q (.bool (decide (p0.N ≤ q1.N))) ?_
  refine GX.m rfl ?_
  rcases bool_two (decide (p0.N ≤ q1.N)) with hb2 | hb2
  ·rw [hb2]; try simp only [hb2, bb] at hR
   iterate 4 refine GX.skip rfl rfl ?_
   refine GX.q (.bool false) ?_
   refine GX.m rfl ?_
   refine GX.done ?_
   refine WK.ret ?_
   subst hR
   exact RetQ.fr [] (.inr rfl) rfl rfl rfl rfl
  ·rw [hb2]; try simp only [hb2, bb] at hR
   refine GX.q (.agg (TPrefix.c p0)) ?_
   refine GX.q (.ptr 1 0) ?_
   refine GX.q (.int .u32 q1.A) ?_
   generalize hc18 : F70_addr_Has p0 q1.A = c18 at hR
   try dsimp only at hR
   refine GX.callp (r := .bool c18) rfl rfl rfl (f70_ok p0 q1.A _ hc18) rfl rfl ?_
   refine GX.q (.bool c18) ?_
   refine GX.m rfl ?_
   refine GX.done ?_
   refine WK.ret ?_
   subst hR
   exact RetQ.fr [] (.inr rfl) rfl rfl rfl rfl

theorem f14_ok (x0 : TRule) (q1 : TPrefix) (R : Bool) (hR : F14_plist_Means x0 q1 = R) : FnOk Tryz.prog 14 [.agg (TRule.c x0), .agg (TPrefix.c q1)] [] 0 (.bool R) [] 0 := by
 refine FnOk.wk i14 rfl rfl ?_
 unfold F14_plist_Means at hR
 change WK _ _ _ [ac14] _ ⟨[(0, .agg (TRule.c x0)), (1, .agg (TPrefix.c q1))], [], 0⟩
 unfold ac14
 refine WK.sr mixed ?_
 refine GX.step (v' := .ptr 0 0) (heap' := [(0, .box (TRule.c x0))]) (next' := 1) rfl rfl rfl rfl rfl rfl rfl ?_
 refine GX.step (v' := .ptr 1 0) (heap' := [(0, .box (TRule.c x0)), (1, .box (TPrefix.c q1))]) (next' := 2) rfl rfl rfl rfl rfl rfl rfl ?_
 refine GX.m rfl ?_
 refine GX.done ?_
 refine WK.sr mixed ?_
 refine GX.q (.agg (TRule.c x0)) ?_
 generalize hc9 : F39_plist_Rule_bounds x0 = c9 at hR
 obtain ⟨c9a, c9b⟩ := c9; try dsimp only at hR
 refine GX.callp (r := .tup [.int .i64 c9a, .int .i64 c9b]) rfl rfl rfl (f39_ok x0 _ hc9) rfl rfl ?_
 refine GX.m rfl ?_
 refine GX.q (.int .i64 c9a) ?_
 refine GX.q (.int .i64 c9b) ?_
 iterate 2 refine GX.m rfl ?_
 refine GX.done ?_
 refine WK.sr mixed ?_
 refine GX.q (.agg (TRule.c x0)) ?_
 generalize hc13 : F10_plist_May x0 = c13 at hR
 try dsimp only at hR
 refine GX.callp (r := .bool c13) rfl rfl rfl (f10_ok x0 _ hc13) rfl rfl ?_
 refine GX.m rfl ?_
 rcases bool_two (c13) with hb1 | hb1
 ·rw [hb1]; try simp only [hb1, bb] at hR
  iterate 4 refine GX.skip rfl rfl ?_
  refine GX.q (.bool false) ?_
  refine GX.m rfl ?_
  iterate 4 refine GX.skip rfl rfl ?_
  refine GX.q (.bool false) ?_
  refine GX.m rfl ?_
  iterate 4 refine GX.skip rfl rfl ?_
  refine GX.q (.bool false) ?_
  refine GX.m rfl ?_
  refine GX.done ?_
  refine WK.ret ?_
  subst hR
  exact RetQ.fr [] (.inr rfl) rfl rfl rfl rfl
 ·rw [hb1]; try simp only [hb1, bb] at hR
  refine GX.q (.ptr 0 2) ?_
  refine GX.q (.agg [.int .u32 x0.P.A, .int .i64 x0.P.N]) ?_
  refine GX.q (.agg (TPrefix.c q1)) ?_
  generalize hc18 : F40_addr_Covers x0.P q1 = c18 at hR
  try dsimp only at hR
  refine GX.callp (r := .bool c18) rfl rfl rfl (f40_ok x0.P q1 _ hc18) rfl rfl ?_
  refine GX.q (.bool c18) ?_
  refine GX.m rfl ?_
  rcases bool_two (c18) with hb2 | hb2
  ·rw [hb2]; try simp only [hb2, bb] at hR
   iterate 4 refine GX.skip rfl rfl ?_
   refine GX.q (.bool false) ?_
   refine GX.m rfl ?_
   iterate 4 refine GX.skip rfl rfl ?_
   refine GX.q (.bool false) ?_
   refine GX.m rfl ?_
   refine GX.done ?_
   refine WK.ret ?_
   subst hR
   exact RetQ.fr [] (.inr rfl) rfl rfl rfl rfl
  ·rw [hb2]; try simp only [hb2, bb] at hR
   refine GX.q (.ptr 1 1) ?_
   refine GX.q (.int .i64 q1.N) ?_
   refine GX.m rfl ?_
   iterate 2 refine GX.q (.bool (decide (c9a ≤ q1.N))) ?_
   refine GX.m rfl ?_
   rcases bool_two (decide (c9a ≤ q1.N)) with hb3 | hb3
   ·rw [hb3]; try simp only [hb3, bb] at hR
    iterate 4 refine GX.skip rfl rfl ?_
    refine GX.q (.bool false) ?_
    refine GX.m rfl ?_
    refine GX.done ?_
    refine WK.ret ?_
    subst hR
    exact RetQ.fr [] (.inr rfl) rfl rfl rfl rfl
   ·rw [hb3]; try simp only [hb3, bb] at hR
    refine GX.q (.ptr 1 1) ?_
    refine GX.q (.int .i64 q1.N) ?_
    refine GX.m rfl ?_
    iterate 2 refine GX.q (.bool (decide (q1.N ≤ c9b))) ?_
    refine GX.m rfl ?_
    refine GX.done ?_
    refine WK.ret ?_
    subst hR
    exact RetQ.fr [] (.inr rfl) rfl rfl rfl rfl

theorem f11_ok  (R : Bool) (hR : F11_crossroadslaw07_alive = some R) : FnOk Tryz.prog 11 [] [] 0 (.bool R) [] 0 := by
 refine FnOk.wk i11 rfl rfl ?_
 unfold F11_crossroadslaw07_alive at hR
 try dsimp only at hR
 change WK _ _ _ [ac11] _ ⟨[], [], 0⟩
 unfold ac11
 refine WK.sr mixed ?_
 refine GX.m rfl ?_
 refine GX.done ?_
 refine WK.sr mixed ?_
 generalize hc4 : F8_plist_Parse (bstr [53, 32, 112, 101, 114, 109, 105, 116, 32, 49, 48, 46, 48, 46, 48, 46, 48, 47, 56, 32, 108, 101, 32, 50, 52]) = c4 at hR
 rcases c4 with _ | c4
 ·try dsimp only at hR
  cases hR
 try dsimp only at hR
 obtain ⟨c4a, c4b⟩ := c4; try dsimp only at hR
 refine GX.callp (r := .tup [.agg [.int .i64 c4a.Seq, .bool c4a.Permit, .int .u32 c4a.P.A, .int .i64 c4a.P.N, .int .i64 c4a.Ge, .int .i64 c4a.Le], .int .i64 c4b]) rfl rfl rfl (f8_ok (bstr [53, 32, 112, 101, 114, 109, 105, 116, 32, 49, 48, 46, 48, 46, 48, 46, 48, 47, 56, 32, 108, 101, 32, 50, 52]) _ hc4) rfl rfl ?_
 refine GX.m rfl ?_
 refine GX.q (.agg [.int .i64 c4a.Seq, .bool c4a.Permit, .int .u32 c4a.P.A, .int .i64 c4a.P.N, .int .i64 c4a.Ge, .int .i64 c4a.Le]) ?_
 refine GX.q (.int .i64 c4b) ?_
 refine GX.step (v' := .ptr 0 0) (heap' := [(0, .box [.int .i64 0, .bool false, .int .u32 0, .int .i64 0, .int .i64 0, .int .i64 0])]) (next' := 1) rfl rfl rfl rfl rfl rfl rfl ?_
 refine GX.step0 (heap' := [(0, .box (TRule.c c4a))]) (next' := 1) rfl rfl rfl rfl rfl ?_
 refine GX.m rfl ?_
 refine GX.done ?_
 refine WK.sr mixed ?_
 refine GX.m rfl ?_
 refine GX.q (.bool (decide (c4b = 0))) ?_
 refine GX.m rfl ?_
 rcases bool_two (decide (c4b = 0)) with hb1 | hb1
 ·rw [hb1]; first | replace hR := cond_f hb1 hR | (try simp only [hb1, bb] at hR)
  iterate 3 refine GX.skip rfl rfl ?_
  refine GX.q (.bool false) ?_
  refine GX.m rfl ?_
  iterate 4 refine GX.skip rfl rfl ?_
  refine GX.q (.bool false) ?_
  refine GX.m rfl ?_
  iterate 3 refine GX.skip rfl rfl ?_
  refine GX.q (.bool false) ?_
  refine GX.m rfl ?_
  refine GX.done ?_
  refine WK.ret ?_
  obtain rfl := Option.some.inj hR
  exact RetQ.fr [] (.inr rfl) rfl rfl rfl rfl
 ·rw [hb1]; first | replace hR := cond_t hb1 hR | (try simp only [hb1, bb] at hR)
  refine GX.q (.agg (TRule.c c4a)) ?_
  refine GX.q (.agg [.int .u32 167837696, .int .i64 16]) ?_
  generalize hc12 : F14_plist_Means c4a (⟨167837696, 16⟩ : TPrefix) = c12 at hR
  try dsimp only at hR
  refine GX.callp (r := .bool c12) rfl rfl rfl (f14_ok c4a (⟨167837696, 16⟩ : TPrefix) _ hc12) rfl rfl ?_
  refine GX.q (.bool c12) ?_
  refine GX.m rfl ?_
  rcases bool_two (c12) with hb2 | hb2
  ·rw [hb2]; first | replace hR := cond_f hb2 hR | (try simp only [hb2, bb] at hR)
   iterate 4 refine GX.skip rfl rfl ?_
   refine GX.q (.bool false) ?_
   refine GX.m rfl ?_
   iterate 3 refine GX.skip rfl rfl ?_
   refine GX.q (.bool false) ?_
   refine GX.m rfl ?_
   refine GX.done ?_
   refine WK.ret ?_
   obtain rfl := Option.some.inj hR
   exact RetQ.fr [] (.inr rfl) rfl rfl rfl rfl
  ·rw [hb2]; first | replace hR := cond_t hb2 hR | (try simp only [hb2, bb] at hR)
   refine GX.q (.agg (TRule.c c4a)) ?_
   refine GX.q (.agg [.int .u32 167837952, .int .i64 25]) ?_
   generalize hc17 : F14_plist_Means c4a (⟨167837952, 25⟩ : TPrefix) = c17 at hR
   try dsimp only at hR
   refine GX.callp (r := .bool c17) rfl rfl rfl (f14_ok c4a (⟨167837952, 25⟩ : TPrefix) _ hc17) rfl rfl ?_
   iterate 2 refine GX.q (.bool (!c17)) ?_
   refine GX.m rfl ?_
   rcases bool_two (c17) with hb3 | hb3
   ·rw [hb3]; first | replace hR := cond_f hb3 hR | (try simp only [hb3, bb] at hR)
    refine GX.q (.agg (TRule.c c4a)) ?_
    generalize hc22 : F9_plist_Text c4a = c22 at hR
    rcases c22 with _ | c22
    ·try dsimp only at hR
     cases hR
    try dsimp only at hR
    try dsimp only at hR
    refine GX.callp (r := .str c22) rfl rfl rfl (f9_ok c4a _ hc22) rfl rfl ?_
    iterate 2 refine GX.q (.bool (c22.toList == (bstr [53, 32, 112, 101, 114, 109, 105, 116, 32, 49, 48, 46, 48, 46, 48, 46, 48, 47, 56, 32, 108, 101, 32, 50, 52]).toList)) ?_
    refine GX.m rfl ?_
    refine GX.done ?_
    refine WK.ret ?_
    obtain rfl := Option.some.inj hR
    exact RetQ.fr [] (.inr rfl) rfl rfl rfl rfl
   ·rw [hb3]; first | replace hR := cond_t hb3 hR | (try simp only [hb3, bb] at hR)
    iterate 3 refine GX.skip rfl rfl ?_
    refine GX.q (.bool false) ?_
    refine GX.m rfl ?_
    refine GX.done ?_
    refine WK.ret ?_
    obtain rfl := Option.some.inj hR
    exact RetQ.fr [] (.inr rfl) rfl rfl rfl rfl

theorem f69_ok (a0 : Int) (i1 : Int) (R : Int) (hR : F69_crossroadsref03_Bit a0 i1 = R) : FnOk Tryz.prog 69 [.int .u32 a0, .int .i64 i1] [] 0 (.int .i64 R) [] 0 := by
 refine FnOk.wk i69 rfl rfl ?_
 unfold F69_crossroadsref03_Bit at hR
 change WK _ _ _ [ac69] _ ⟨[(0, .int .u32 a0), (1, .int .i64 i1)], [], 0⟩
 unfold ac69
 refine WK.sr mixed ?_
 refine GX.m rfl ?_
 refine GX.done ?_
 refine WK.seq ?_
 refine WK.sr mixed ?_
 refine GX.m rfl ?_
 refine GX.q (.bool (decide (i1 < 0))) ?_
 refine GX.m rfl ?_
 rcases bool_two (decide (i1 < 0)) with hb1 | hb1
 ·rw [hb1]; try simp only [hb1, bb] at hR
  refine GX.m rfl ?_
  iterate 2 refine GX.q (.bool (decide (31 < i1))) ?_
  refine GX.done ?_
  rcases bool_two (decide (31 < i1)) with hb2 | hb2
  ·rw [hb2]; try simp only [hb2, bb] at hR
   refine WK.condF rfl ?_
   refine WK.skip ?_
   refine WK.sr mixed ?_
   iterate 2 refine GX.m rfl ?_
   refine GX.q (.int .i64 (IntKind.i64.wrap (31 - i1))) ?_
   refine GX.q (.int .u64 (IntKind.u64.wrap (IntKind.i64.wrap (31 - i1)))) ?_
   refine GX.shr rfl rfl rfl (by exact wrap_u64_nonneg _) ?_
   refine GX.q (.int .u32 (bit_and .u32 (shr_ .u32 a0 (IntKind.u64.wrap (IntKind.i64.wrap (31 - i1)))) 1)) ?_
   refine GX.q (.int .i64 (IntKind.i64.wrap (bit_and .u32 (shr_ .u32 a0 (IntKind.u64.wrap (IntKind.i64.wrap (31 - i1)))) 1))) ?_
   refine GX.m rfl ?_
   refine GX.done ?_
   refine WK.ret ?_
   subst hR
   exact RetQ.fr [] (.inr rfl) rfl rfl rfl rfl
  ·rw [hb2]; try simp only [hb2, bb] at hR
   refine WK.condT rfl ?_
   refine WK.sr mixed ?_
   refine GX.m rfl ?_
   refine GX.done ?_
   refine WK.ret ?_
   subst hR
   exact RetQ.fr [] (.inr rfl) rfl rfl rfl rfl
 ·rw [hb1]; try simp only [hb1, bb] at hR
  iterate 2 refine GX.skip rfl rfl ?_
  refine GX.q (.bool true) ?_
  refine GX.done ?_
  refine WK.condT rfl ?_
  refine WK.sr mixed ?_
  refine GX.m rfl ?_
  refine GX.done ?_
  refine WK.ret ?_
  subst hR
  exact RetQ.fr [] (.inr rfl) rfl rfl rfl rfl

theorem f38_ok (p0 : TPrefix) (R : Bool) (hR : F38_crossroadsref03_May p0 = R) : FnOk Tryz.prog 38 [.agg (TPrefix.c p0)] [] 0 (.bool R) [] 0 := by
 refine FnOk.wk i38 rfl rfl ?_
 unfold F38_crossroadsref03_May at hR
 change WK _ _ _ [ac38] _ ⟨[(0, .agg (TPrefix.c p0))], [], 0⟩
 unfold ac38
 refine WK.sr mixed ?_
 refine GX.step (v' := .ptr 0 0) (heap' := [(0, .box (TPrefix.c p0))]) (next' := 1) rfl rfl rfl rfl rfl rfl rfl ?_
 refine GX.m rfl ?_
 refine GX.done ?_
 refine WK.seq ?_
 refine WK.sr mixed ?_
 refine GX.q (.ptr 0 1) ?_
 refine GX.q (.int .i64 p0.N) ?_
 refine GX.q (.bool (decide (p0.N < 0))) ?_
 refine GX.m rfl ?_
 rcases bool_two (decide (p0.N < 0)) with hb1 | hb1
 ·rw [hb1]; try simp only [hb1, bb] at hR
  refine GX.q (.ptr 0 1) ?_
  refine GX.q (.int .i64 p0.N) ?_
  iterate 2 refine GX.q (.bool (decide (32 < p0.N))) ?_
  refine GX.done ?_
  rcases bool_two (decide (32 < p0.N)) with hb2 | hb2
  ·rw [hb2]; try simp only [hb2, bb] at hR
   refine WK.condF rfl ?_
   refine WK.skip ?_
   refine WK.seq ?_
   refine WK.sr mixed ?_
   refine GX.q (.ptr 0 1) ?_
   refine GX.q (.int .i64 p0.N) ?_
   refine GX.m rfl ?_
   refine GX.done ?_
   generalize hZ_3 : F38_crossroadsref03_May_l1 p0 (fuelUp p0.N 32) p0.N = Z_3 at hR
   refine WK.forK (fun k s => ∃ (i3 : Int), fuelUp i3 32 ≤ k ∧ F38_crossroadsref03_May_l1 p0 k i3 = Z_3 ∧ s = ⟨[(1, .ptr 0 0), (3, .int .i64 i3)], [(0, .box (TPrefix.c p0))], 1⟩) (fuelUp p0.N 32) ⟨⟨[(1, .ptr 0 0), (3, .int .i64 p0.N)], [(0, .box (TPrefix.c p0))], 1⟩, Conv.keep [0] [] [1, 3] rfl rfl (viewE_cons rfl rfl (viewE_cons rfl rfl viewE_nil)) rfl rfl, p0.N, Nat.le_refl _, hZ_3, rfl⟩ ?_
   rintro k3 _ ⟨i3, hfu3, hL_3, rfl⟩ again_3 out_3 Q_3 hagain_3 hout_3 hQ_3
   refine WK.seq ?_
   refine WK.sr mixed ?_
   refine GX.m rfl ?_
   refine GX.q (.bool (decide (i3 < 32))) ?_
   refine GX.done ?_
   rcases bool_two (decide (i3 < 32)) with hb4 | hb4
   ·rw [hb4]
    unfold F38_crossroadsref03_May_l1 at hL_3; rw [hb4, cond_false] at hL_3
    refine WK.condF rfl ?_
    refine WK.exit ?_
    refine QF.exit (hout_3 _ ?_)
    subst hL_3
    try dsimp only [cond_true, cond_false] at hR
    refine WK.sr mixed ?_
    refine GX.m rfl ?_
    refine GX.done ?_
    refine WK.ret ?_
    subst hR
    exact RetQ.fr [] (.inr rfl) rfl rfl rfl rfl
   ·rw [hb4]
    obtain ⟨f3, rfl⟩ := fuel_pos hb4 hfu3
    unfold F38_crossroadsref03_May_l1 at hL_3; rw [hb4, cond_true] at hL_3; dsimp only at hL_3
    refine WK.condT rfl ?_
    refine WK.skip ?_
    refine WK.seq ?_
    refine WK.blockK (fun _ hK5 => ?_)
    refine WK.sr mixed ?_
    refine GX.q (.ptr 0 0) ?_
    refine GX.q (.int .u32 p0.A) ?_
    refine GX.m rfl ?_
    generalize hc21 : F69_crossroadsref03_Bit p0.A i3 = c21 at hL_3
    try dsimp only at hL_3
    refine GX.callp (r := .int .i64 c21) rfl rfl rfl (f69_ok p0.A i3 _ hc21) rfl rfl ?_
    refine GX.q (.bool (decide (c21 = 1))) ?_
    refine GX.done ?_
    rcases bool_two (decide (c21 = 1)) with hb6 | hb6
    ·rw [hb6]; try simp only [hb6, bb] at hL_3
     refine WK.condF rfl ?_
     refine WK.skip ?_
     refine WK.nil (QF.normal (hK5 _ ?_))
     refine WK.regx mixed ?_
     refine GX.m rfl ?_
     refine GX.q (.int .i64 (IntKind.i64.wrap (i3 + 1))) ?_
     refine GX.m rfl ?_
     refine GX.done ?_
     refine WK.nil (QF.normal ?_)
     exact hagain_3 _ f3 ⟨[(1, .ptr 0 0), (3, .int .i64 (IntKind.i64.wrap (i3 + 1)))], [(0, .box (TPrefix.c p0))], 1⟩ (Nat.lt_succ_self _) (Conv.keep [0] [] [1, 3] rfl rfl (viewE_cons rfl rfl (viewE_cons rfl rfl viewE_nil)) rfl rfl) ⟨(IntKind.i64.wrap (i3 + 1)), fuel_up hb4 (by decide) hfu3, hL_3, rfl⟩
    ·rw [hb6]; try simp only [hb6, bb] at hL_3
     refine WK.condT rfl ?_
     refine WK.sr mixed ?_
     refine GX.m rfl ?_
     refine GX.done ?_
     refine WK.ret ?_
     refine QF.ret ?_
     refine QF.ret (hQ_3 _ _ ?_)
     subst hL_3
     subst hR
     exact RetQ.fr [] (.inr rfl) rfl rfl rfl rfl
  ·rw [hb2]; try simp only [hb2, bb] at hR
   refine WK.condT rfl ?_
   refine WK.sr mixed ?_
   refine GX.m rfl ?_
   refine GX.done ?_
   refine WK.ret ?_
   subst hR
   exact RetQ.fr [] (.inr rfl) rfl rfl rfl rfl
 ·rw [hb1]; try simp only [hb1, bb] at hR
  iterate 3 refine GX.skip rfl rfl ?_
  refine GX.q (.bool true) ?_
  refine GX.done ?_
  refine WK.condT rfl ?_
  refine WK.sr mixed ?_
  refine GX.m rfl ?_
  refine GX.done ?_
  refine WK.ret ?_
  subst hR
  exact RetQ.fr [] (.inr rfl) rfl rfl rfl rfl

theorem f12_ok (x0 : TRule) (R : Bool) (hR : F12_crossroadsref07_May x0 = R) : FnOk Tryz.prog 12 [.agg (TRule.c x0)] [] 0 (.bool R) [] 0 := by
 refine FnOk.wk i12 rfl rfl ?_
 unfold F12_crossroadsref07_May at hR
 change WK _ _ _ [ac12] _ ⟨[(0, .agg (TRule.c x0))], [], 0⟩
 unfold ac12
 refine WK.sr mixed ?_
 refine GX.step (v' := .ptr 0 0) (heap' := [(0, .box (TRule.c x0))]) (next' := 1) rfl rfl rfl rfl rfl rfl rfl ?_
 refine GX.m rfl ?_
 refine GX.done ?_
 refine WK.seq ?_
 refine WK.sr mixed ?_
 refine GX.q (.ptr 0 0) ?_
 refine GX.q (.int .i64 x0.Seq) ?_
 refine GX.q (.bool (decide (x0.Seq < 1))) ?_
 refine GX.m rfl ?_
 rcases bool_two (decide (x0.Seq < 1)) with hb1 | hb1
 ·rw [hb1]; try simp only [hb1, bb] at hR
  refine GX.q (.ptr 0 0) ?_
  refine GX.q (.int .i64 x0.Seq) ?_
  iterate 2 refine GX.q (.bool (decide (65535 < x0.Seq))) ?_
  refine GX.m rfl ?_
  rcases bool_two (decide (65535 < x0.Seq)) with hb2 | hb2
  ·rw [hb2]; try simp only [hb2, bb] at hR
   refine GX.q (.ptr 0 2) ?_
   refine GX.q (.agg [.int .u32 x0.P.A, .int .i64 x0.P.N]) ?_
   generalize hc14 : F38_crossroadsref03_May x0.P = c14 at hR
   try dsimp only at hR
   refine GX.callp (r := .bool c14) rfl rfl rfl (f38_ok x0.P _ hc14) rfl rfl ?_
   iterate 2 refine GX.q (.bool (!c14)) ?_
   refine GX.done ?_
   rcases bool_two (c14) with hb3 | hb3
   ·rw [hb3]; try simp only [hb3, bb] at hR
    refine WK.condT rfl ?_
    refine WK.sr mixed ?_
    refine GX.m rfl ?_
    refine GX.done ?_
    refine WK.ret ?_
    subst hR
    exact RetQ.fr [] (.inr rfl) rfl rfl rfl rfl
   ·rw [hb3]; try simp only [hb3, bb] at hR
    refine WK.condF rfl ?_
    refine WK.skip ?_
    refine WK.seq ?_
    refine WK.sr mixed ?_
    refine GX.q (.ptr 0 4) ?_
    refine GX.q (.int .i64 x0.Ge) ?_
    refine GX.q (.bool (!decide (x0.Ge = 0))) ?_
    refine GX.m rfl ?_
    rcases bool_two (decide (x0.Ge = 0)) with hb4 | hb4
    ·rw [hb4]; try simp only [hb4, bb] at hR
     refine GX.q (.ptr 0 4) ?_
     refine GX.q (.int .i64 x0.Ge) ?_
     refine GX.q (.ptr 0 2) ?_
     refine GX.q (.ptr 0 3) ?_
     refine GX.q (.int .i64 x0.P.N) ?_
     refine GX.q (.bool (decide (x0.Ge ≤ x0.P.N))) ?_
     refine GX.m rfl ?_
     rcases bool_two (decide (x0.Ge ≤ x0.P.N)) with hb5 | hb5
     ·rw [hb5]; try simp only [hb5, bb] at hR
      refine GX.q (.ptr 0 4) ?_
      refine GX.q (.int .i64 x0.Ge) ?_
      iterate 3 refine GX.q (.bool (decide (32 < x0.Ge))) ?_
      refine GX.done ?_
      rcases bool_two (decide (32 < x0.Ge)) with hb6 | hb6
      ·rw [hb6]; try simp only [hb6, bb] at hR
       refine WK.condF rfl ?_
       refine WK.skip ?_
       refine WK.sr mixed ?_
       refine GX.q (.ptr 0 5) ?_
       refine GX.q (.int .i64 x0.Le) ?_
       refine GX.q (.bool (decide (x0.Le = 0))) ?_
       refine GX.m rfl ?_
       rcases bool_two (decide (x0.Le = 0)) with hb7 | hb7
       ·rw [hb7]; try simp only [hb7, bb] at hR
        refine GX.q (.ptr 0 5) ?_
        refine GX.q (.int .i64 x0.Le) ?_
        refine GX.q (.ptr 0 4) ?_
        refine GX.q (.int .i64 x0.Ge) ?_
        refine GX.q (.bool (decide (x0.Ge ≤ x0.Le))) ?_
        refine GX.m rfl ?_
        rcases bool_two (decide (x0.Ge ≤ x0.Le)) with hb8 | hb8
        ·rw [hb8]; try simp only [hb8, bb] at hR
         iterate 6 refine GX.skip rfl rfl ?_
         refine GX.q (.bool false) ?_
         refine GX.m rfl ?_
         iterate 3 refine GX.skip rfl rfl ?_
         iterate 2 refine GX.q (.bool false) ?_
         refine GX.m rfl ?_
         refine GX.done ?_
         refine WK.ret ?_
         subst hR
         exact RetQ.fr [] (.inr rfl) rfl rfl rfl rfl
        ·rw [hb8]; try simp only [hb8, bb] at hR
         refine GX.q (.ptr 0 5) ?_
         refine GX.q (.int .i64 x0.Le) ?_
         refine GX.q (.ptr 0 2) ?_
         refine GX.q (.ptr 0 3) ?_
         refine GX.q (.int .i64 x0.P.N) ?_
         iterate 2 refine GX.q (.bool (decide (x0.P.N ≤ x0.Le))) ?_
         refine GX.m rfl ?_
         rcases bool_two (decide (x0.P.N ≤ x0.Le)) with hb9 | hb9
         ·rw [hb9]; try simp only [hb9, bb] at hR
          iterate 3 refine GX.skip rfl rfl ?_
          iterate 2 refine GX.q (.bool false) ?_
          refine GX.m rfl ?_
          refine GX.done ?_
          refine WK.ret ?_
          subst hR
          exact RetQ.fr [] (.inr rfl) rfl rfl rfl rfl
         ·rw [hb9]; try simp only [hb9, bb] at hR
          refine GX.q (.ptr 0 5) ?_
          refine GX.q (.int .i64 x0.Le) ?_
          iterate 3 refine GX.q (.bool (decide (x0.Le ≤ 32))) ?_
          refine GX.m rfl ?_
          refine GX.done ?_
          refine WK.ret ?_
          subst hR
          exact RetQ.fr [] (.inr rfl) rfl rfl rfl rfl
       ·rw [hb7]; try simp only [hb7, bb] at hR
        iterate 18 refine GX.skip rfl rfl ?_
        refine GX.q (.bool true) ?_
        refine GX.m rfl ?_
        refine GX.done ?_
        refine WK.ret ?_
        subst hR
        exact RetQ.fr [] (.inr rfl) rfl rfl rfl rfl
      ·rw [hb6]; try simp only [hb6, bb] at hR
       refine WK.condT rfl ?_
       refine WK.sr mixed ?_
       refine GX.m rfl ?_
       refine GX.done ?_
       refine WK.ret ?_
       subst hR
       exact RetQ.fr [] (.inr rfl) rfl rfl rfl rfl
     ·rw [hb5]; try simp only [hb5, bb] at hR
      iterate 3 refine GX.skip rfl rfl ?_
      iterate 2 refine GX.q (.bool true) ?_
      refine GX.done ?_
      refine WK.condT rfl ?_
      refine WK.sr mixed ?_
      refine GX.m rfl ?_
      refine GX.done ?_
      refine WK.ret ?_
      subst hR
      exact RetQ.fr [] (.inr rfl) rfl rfl rfl rfl
    ·rw [hb4]; try simp only [hb4, bb] at hR
     iterate 11 refine GX.skip rfl rfl ?_
     refine GX.q (.bool false) ?_
     refine GX.done ?_
     refine WK.condF rfl ?_
     refine WK.skip ?_
     refine WK.sr mixed ?_
     refine GX.q (.ptr 0 5) ?_
     refine GX.q (.int .i64 x0.Le) ?_
     refine GX.q (.bool (decide (x0.Le = 0))) ?_
     refine GX.m rfl ?_
     rcases bool_two (decide (x0.Le = 0)) with hb10 | hb10
     ·rw [hb10]; try simp only [hb10, bb] at hR
      refine GX.q (.ptr 0 5) ?_
      refine GX.q (.int .i64 x0.Le) ?_
      refine GX.q (.ptr 0 4) ?_
      refine GX.q (.int .i64 x0.Ge) ?_
      refine GX.q (.bool (decide (x0.Ge ≤ x0.Le))) ?_
      refine GX.m rfl ?_
      rcases bool_two (decide (x0.Ge ≤ x0.Le)) with hb11 | hb11
      ·rw [hb11]; try simp only [hb11, bb] at hR
       iterate 6 refine GX.skip rfl rfl ?_
       refine GX.q (.bool false) ?_
       refine GX.m rfl ?_
       iterate 3 refine GX.skip rfl rfl ?_
       iterate 2 refine GX.q (.bool false) ?_
       refine GX.m rfl ?_
       refine GX.done ?_
       refine WK.ret ?_
       subst hR
       exact RetQ.fr [] (.inr rfl) rfl rfl rfl rfl
      ·rw [hb11]; try simp only [hb11, bb] at hR
       refine GX.q (.ptr 0 5) ?_
       refine GX.q (.int .i64 x0.Le) ?_
       refine GX.q (.ptr 0 2) ?_
       refine GX.q (.ptr 0 3) ?_
       refine GX.q (.int .i64 x0.P.N) ?_
       iterate 2 refine GX.q (.bool (decide (x0.P.N ≤ x0.Le))) ?_
       refine GX.m rfl ?_
       rcases bool_two (decide (x0.P.N ≤ x0.Le)) with hb12 | hb12
       ·rw [hb12]; try simp only [hb12, bb] at hR
        iterate 3 refine GX.skip rfl rfl ?_
        iterate 2 refine GX.q (.bool false) ?_
        refine GX.m rfl ?_
        refine GX.done ?_
        refine WK.ret ?_
        subst hR
        exact RetQ.fr [] (.inr rfl) rfl rfl rfl rfl
       ·rw [hb12]; try simp only [hb12, bb] at hR
        refine GX.q (.ptr 0 5) ?_
        refine GX.q (.int .i64 x0.Le) ?_
        iterate 3 refine GX.q (.bool (decide (x0.Le ≤ 32))) ?_
        refine GX.m rfl ?_
        refine GX.done ?_
        refine WK.ret ?_
        subst hR
        exact RetQ.fr [] (.inr rfl) rfl rfl rfl rfl
     ·rw [hb10]; try simp only [hb10, bb] at hR
      iterate 18 refine GX.skip rfl rfl ?_
      refine GX.q (.bool true) ?_
      refine GX.m rfl ?_
      refine GX.done ?_
      refine WK.ret ?_
      subst hR
      exact RetQ.fr [] (.inr rfl) rfl rfl rfl rfl
  ·rw [hb2]; try simp only [hb2, bb] at hR
   iterate 4 refine GX.skip rfl rfl ?_
   refine GX.q (.bool true) ?_
   refine GX.done ?_
   refine WK.condT rfl ?_
   refine WK.sr mixed ?_
   refine GX.m rfl ?_
   refine GX.done ?_
   refine WK.ret ?_
   subst hR
   exact RetQ.fr [] (.inr rfl) rfl rfl rfl rfl
 ·rw [hb1]; try simp only [hb1, bb] at hR
  iterate 3 refine GX.skip rfl rfl ?_
  refine GX.q (.bool true) ?_
  refine GX.m rfl ?_
  iterate 4 refine GX.skip rfl rfl ?_
  refine GX.q (.bool true) ?_
  refine GX.done ?_
  refine WK.condT rfl ?_
  refine WK.sr mixed ?_
  refine GX.m rfl ?_
  refine GX.done ?_
  refine WK.ret ?_
  subst hR
  exact RetQ.fr [] (.inr rfl) rfl rfl rfl rfl

theorem f13_ok (x0 : TRule) (R : TRule) (hR : F13_crossroadslaw07_plain x0 = R) : FnOk Tryz.prog 13 [.agg (TRule.c x0)] [] 0 (.agg (TRule.c R)) [] 0 := by
 refine FnOk.wk i13 rfl rfl ?_
 unfold F13_crossroadslaw07_plain at hR
 change WK _ _ _ [ac13] _ ⟨[(0, .agg (TRule.c x0))], [], 0⟩
 unfold ac13
 refine WK.sr mixed ?_
 refine GX.step (v' := .ptr 0 0) (heap' := [(0, .box (TRule.c x0))]) (next' := 1) rfl rfl rfl rfl rfl rfl rfl ?_
 refine GX.step (v' := .ptr 1 0) (heap' := [(0, .box (TRule.c x0)), (1, .box [.int .i64 0, .bool false, .int .u32 0, .int .i64 0, .int .i64 0, .int .i64 0])]) (next' := 2) rfl rfl rfl rfl rfl rfl rfl ?_
 refine GX.done ?_
 refine WK.sr mixed ?_
 refine GX.q (.ptr 0 0) ?_
 refine GX.q (.int .i64 x0.Seq) ?_
 refine GX.q (.ptr 0 1) ?_
 refine GX.q (.bool x0.Permit) ?_
 refine GX.q (.ptr 0 2) ?_
 refine GX.q (.agg [.int .u32 x0.P.A, .int .i64 x0.P.N]) ?_
 refine GX.q (.ptr 0 4) ?_
 refine GX.q (.int .i64 x0.Ge) ?_
 refine GX.q (.ptr 0 5) ?_
 refine GX.q (.int .i64 x0.Le) ?_
 refine GX.q (.agg (TRule.c x0)) ?_
 refine GX.step0 (heap' := [(0, .box (TRule.c x0)), (1, .box (TRule.c x0))]) (next' := 2) rfl rfl rfl rfl rfl ?_
 refine GX.done ?_
 refine WK.ret ?_
 subst hR
 exact RetQ.fr [] (.inr rfl) rfl rfl rfl rfl

theorem f41_ok (x0 : TRule) (R : Int × Int) (hR : F41_crossroadsref07_Bounds x0 = R) : FnOk Tryz.prog 41 [.agg (TRule.c x0)] [] 0 (.tup [.int .i64 R.1, .int .i64 R.2]) [] 0 := by
 refine FnOk.wk i41 rfl rfl ?_
 unfold F41_crossroadsref07_Bounds at hR
 change WK _ _ _ [ac41] _ ⟨[(0, .agg (TRule.c x0))], [], 0⟩
 unfold ac41
 refine WK.sr mixed ?_
 refine GX.step (v' := .ptr 0 0) (heap' := [(0, .box (TRule.c x0))]) (next' := 1) rfl rfl rfl rfl rfl rfl rfl ?_
 iterate 2 refine GX.m rfl ?_
 refine GX.done ?_
 refine WK.seq ?_
 refine WK.sr mixed ?_
 refine GX.q (.ptr 0 4) ?_
 refine GX.q (.int .i64 x0.Ge) ?_
 refine GX.q (.bool (decide (x0.Ge = 0))) ?_
 refine GX.m rfl ?_
 rcases bool_two (decide (x0.Ge = 0)) with hb1 | hb1
 ·rw [hb1]; try simp only [hb1, bb] at hR
  iterate 3 refine GX.skip rfl rfl ?_
  refine GX.q (.bool false) ?_
  refine GX.done ?_
  refine WK.condF rfl ?_
  refine WK.skip ?_
  refine WK.seq ?_
  refine WK.drawn mixed ?_
  refine RD.q (.ptr 0 4) ?_
  refine RD.q (.int .i64 x0.Ge) ?_
  refine RD.q (.ptr 0 5) ?_
  refine RD.q (.int .i64 x0.Le) ?_
  iterate 2 refine RD.m rfl ?_
  refine RD.done rfl ?_
  refine WK.seq ?_
  refine WK.sr mixed ?_
  refine GX.m rfl ?_
  refine GX.q (.bool (decide (x0.Ge = 0))) ?_
  refine GX.done ?_
  rw [hb1]
  refine WK.condF rfl ?_
  refine WK.skip ?_
  refine WK.seq ?_
  refine WK.sr mixed ?_
  refine GX.m rfl ?_
  refine GX.q (.bool (decide (x0.Le = 0))) ?_
  refine GX.done ?_
  rcases bool_two (decide (x0.Le = 0)) with hb2 | hb2
  ·rw [hb2]; try simp only [hb2, bb] at hR
   refine WK.condF rfl ?_
   refine WK.skip ?_
   refine WK.sr mixed ?_
   iterate 4 refine GX.m rfl ?_
   refine GX.done ?_
   refine WK.ret ?_
   subst hR
   exact RetQ.fr [] (.inr rfl) rfl rfl rfl rfl
  ·rw [hb2]; try simp only [hb2, bb] at hR
   refine WK.condT rfl ?_
   refine WK.regx mixed ?_
   refine GX.m rfl ?_
   refine GX.done ?_
   refine WK.sr mixed ?_
   iterate 4 refine GX.m rfl ?_
   refine GX.done ?_
   refine WK.ret ?_
   subst hR
   exact RetQ.fr [] (.inr rfl) rfl rfl rfl rfl
 ·rw [hb1]; try simp only [hb1, bb] at hR
  refine GX.q (.ptr 0 5) ?_
  refine GX.q (.int .i64 x0.Le) ?_
  iterate 2 refine GX.q (.bool (decide (x0.Le = 0))) ?_
  refine GX.done ?_
  rcases bool_two (decide (x0.Le = 0)) with hb3 | hb3
  ·rw [hb3]; try simp only [hb3, bb] at hR
   refine WK.condF rfl ?_
   refine WK.skip ?_
   refine WK.seq ?_
   refine WK.drawn mixed ?_
   refine RD.q (.ptr 0 4) ?_
   refine RD.q (.int .i64 x0.Ge) ?_
   refine RD.q (.ptr 0 5) ?_
   refine RD.q (.int .i64 x0.Le) ?_
   iterate 2 refine RD.m rfl ?_
   refine RD.done rfl ?_
   refine WK.seq ?_
   refine WK.sr mixed ?_
   refine GX.m rfl ?_
   refine GX.q (.bool (decide (x0.Ge = 0))) ?_
   refine GX.done ?_
   rw [hb1]
   refine WK.condT rfl ?_
   refine WK.regx mixed ?_
   refine GX.q (.ptr 0 2) ?_
   refine GX.q (.ptr 0 3) ?_
   refine GX.q (.int .i64 x0.P.N) ?_
   refine GX.m rfl ?_
   refine GX.done ?_
   refine WK.seq ?_
   refine WK.sr mixed ?_
   refine GX.m rfl ?_
   refine GX.q (.bool (decide (x0.Le = 0))) ?_
   refine GX.done ?_
   rw [hb3]
   refine WK.condF rfl ?_
   refine WK.skip ?_
   refine WK.sr mixed ?_
   iterate 4 refine GX.m rfl ?_
   refine GX.done ?_
   refine WK.ret ?_
   subst hR
   exact RetQ.fr [] (.inr rfl) rfl rfl rfl rfl
  ·rw [hb3]; try simp only [hb3, bb] at hR
   refine WK.condT rfl ?_
   refine WK.seq ?_
   refine WK.drawn mixed ?_
   refine RD.q (.ptr 0 2) ?_
   refine RD.q (.ptr 0 3) ?_
   refine RD.q (.int .i64 x0.P.N) ?_
   refine RD.q (.ptr 0 2) ?_
   refine RD.q (.ptr 0 3) ?_
   refine RD.q (.int .i64 x0.P.N) ?_
   iterate 2 refine RD.m rfl ?_
   refine RD.done rfl ?_
   refine WK.ret ?_
   subst hR
   exact RetQ.fr [] (.inr rfl) rfl rfl rfl rfl

theorem f71_ok (p0 : TPrefix) (a1 : Int) (R : Bool) (hR : F71_crossroadsref03_Has p0 a1 = R) : FnOk Tryz.prog 71 [.agg (TPrefix.c p0), .int .u32 a1] [] 0 (.bool R) [] 0 := by
 refine FnOk.wk i71 rfl rfl ?_
 unfold F71_crossroadsref03_Has at hR
 change WK _ _ _ [ac71] _ ⟨[(0, .agg (TPrefix.c p0)), (1, .int .u32 a1)], [], 0⟩
 unfold ac71
 refine WK.sr mixed ?_
 refine GX.step (v' := .ptr 0 0) (heap' := [(0, .box (TPrefix.c p0))]) (next' := 1) rfl rfl rfl rfl rfl rfl rfl ?_
 refine GX.m rfl ?_
 refine GX.done ?_
 refine WK.seq ?_
 refine WK.sr mixed ?_
 refine GX.q (.agg (TPrefix.c p0)) ?_
 generalize hc7 : F38_crossroadsref03_May p0 = c7 at hR
 try dsimp only at hR
 refine GX.callp (r := .bool c7) rfl rfl rfl (f38_ok p0 _ hc7) rfl rfl ?_
 refine GX.q (.bool (!c7)) ?_
 refine GX.done ?_
 rcases bool_two (c7) with hb1 | hb1
 ·rw [hb1]; try simp only [hb1, bb] at hR
  refine WK.condT rfl ?_
  refine WK.sr mixed ?_
  refine GX.m rfl ?_
  refine GX.done ?_
  refine WK.ret ?_
  subst hR
  exact RetQ.fr [] (.inr rfl) rfl rfl rfl rfl
 ·rw [hb1]; try simp only [hb1, bb] at hR
  refine WK.condF rfl ?_
  refine WK.skip ?_
  refine WK.seq ?_
  refine WK.sr mixed ?_
  refine GX.m rfl ?_
  refine GX.done ?_
  generalize hZ_2 : F71_crossroadsref03_Has_l1 p0 a1 (fuelUp 0 p0.N) 0 = Z_2 at hR
  refine WK.forK (fun k s => ∃ (i5 : Int), fuelUp i5 p0.N ≤ k ∧ 0 ≤ i5 ∧ F71_crossroadsref03_Has_l1 p0 a1 k i5 = Z_2 ∧ s = ⟨[(1, .int .u32 a1), (2, .ptr 0 0), (5, .int .i64 i5)], [(0, .box (TPrefix.c p0))], 1⟩) (fuelUp 0 p0.N) ⟨⟨[(1, .int .u32 a1), (2, .ptr 0 0), (5, .int .i64 0)], [(0, .box (TPrefix.c p0))], 1⟩, Conv.keep [0] [] [1, 2, 5] rfl rfl (viewE_cons rfl rfl (viewE_cons rfl rfl (viewE_cons rfl rfl viewE_nil))) rfl rfl, 0, Nat.le_refl _, (by omega), hZ_2, rfl⟩ ?_
  rintro k2 _ ⟨i5, hfu2, hinv2_c0, hL_2, rfl⟩ again_2 out_2 Q_2 hagain_2 hout_2 hQ_2
  refine WK.seq ?_
  refine WK.sr mixed ?_
  refine GX.m rfl ?_
  refine GX.q (.ptr 0 1) ?_
  refine GX.q (.int .i64 p0.N) ?_
  refine GX.q (.bool (decide (i5 < p0.N))) ?_
  refine GX.done ?_
  rcases bool_two (decide (i5 < p0.N)) with hb3 | hb3
  ·rw [hb3]
   unfold F71_crossroadsref03_Has_l1 at hL_2; rw [hb3, cond_false] at hL_2
   refine WK.condF rfl ?_
   refine WK.exit ?_
   refine QF.exit (hout_2 _ ?_)
   subst hL_2
   try dsimp only [cond_true, cond_false] at hR
   refine WK.sr mixed ?_
   refine GX.m rfl ?_
   refine GX.done ?_
   refine WK.ret ?_
   subst hR
   exact RetQ.fr [] (.inr rfl) rfl rfl rfl rfl
  ·rw [hb3]
   obtain ⟨f2, rfl⟩ := fuel_pos hb3 hfu2
   unfold F71_crossroadsref03_Has_l1 at hL_2; rw [hb3, cond_true] at hL_2; dsimp only at hL_2
   refine WK.condT rfl ?_
   refine WK.skip ?_
   refine WK.seq ?_
   refine WK.blockK (fun _ hK4 => ?_)
   refine WK.sr mixed ?_
   refine GX.q (.ptr 0 0) ?_
   refine GX.q (.int .u32 p0.A) ?_
   refine GX.m rfl ?_
   generalize hc18 : F69_crossroadsref03_Bit p0.A i5 = c18 at hL_2
   try dsimp only at hL_2
   refine GX.callp (r := .int .i64 c18) rfl rfl rfl (f69_ok p0.A i5 _ hc18) rfl rfl ?_
   iterate 2 refine GX.m rfl ?_
   generalize hc21 : F69_crossroadsref03_Bit a1 i5 = c21 at hL_2
   try dsimp only at hL_2
   refine GX.callp (r := .int .i64 c21) rfl rfl rfl (f69_ok a1 i5 _ hc21) rfl rfl ?_
   refine GX.q (.bool (!decide (c18 = c21))) ?_
   refine GX.done ?_
   rcases bool_two (decide (c18 = c21)) with hb5 | hb5
   ·rw [hb5]; try simp only [hb5, bb] at hL_2
    refine WK.condT rfl ?_
    refine WK.sr mixed ?_
    refine GX.m rfl ?_
    refine GX.done ?_
    refine WK.ret ?_
    refine QF.ret ?_
    refine QF.ret (hQ_2 _ _ ?_)
    subst hL_2
    subst hR
    exact RetQ.fr [] (.inr rfl) rfl rfl rfl rfl
   ·rw [hb5]; try simp only [hb5, bb] at hL_2
    refine WK.condF rfl ?_
    refine WK.skip ?_
    refine WK.nil (QF.normal (hK4 _ ?_))
    refine WK.regx mixed ?_
    refine GX.m rfl ?_
    refine GX.q (.int .i64 (IntKind.i64.wrap (i5 + 1))) ?_
    refine GX.m rfl ?_
    refine GX.done ?_
    refine WK.nil (QF.normal ?_)
    exact hagain_2 _ f2 ⟨[(1, .int .u32 a1), (2, .ptr 0 0), (5, .int .i64 (IntKind.i64.wrap (i5 + 1)))], [(0, .box (TPrefix.c p0))], 1⟩ (Nat.lt_succ_self _) (Conv.keep [0] [] [1, 2, 5] rfl rfl (viewE_cons rfl rfl (viewE_cons rfl rfl (viewE_cons rfl rfl viewE_nil))) rfl rfl) ⟨(IntKind.i64.wrap (i5 + 1)), fuel_up hb3 (by (have hlf := may03_len (by assumption) (by assumption); omega)) hfu2, (by (have hlf := may03_len (by assumption) (by assumption); (try simp only [decide_eq_true_eq, decide_eq_false_iff_not] at *); rw [wrap64_of (by omega) (by omega)]; omega)), hL_2, rfl⟩

theorem f42_ok (p0 : TPrefix) (q1 : TPrefix) (R : Bool) (hR : F42_crossroadsref03_Covers p0 q1 = R) : FnOk Tryz.prog 42 [.agg (TPrefix.c p0), .agg (TPrefix.c q1)] [] 0 (.bool R) [] 0 := by
 refine FnOk.wk i42 rfl rfl ?_
 unfold F42_crossroadsref03_Covers at hR
 change WK _ _ _ [ac42] _ ⟨[(0, .agg (TPrefix.c p0)), (1, .agg (TPrefix.c q1))], [], 0⟩
 unfold ac42
 refine WK.sr mixed ?_
 refine GX.step (v' := .ptr 0 0) (heap' := [(0, .box (TPrefix.c p0))]) (next' := 1) rfl rfl rfl rfl rfl rfl rfl ?_
 refine GX.step (v' := .ptr 1 0) (heap' := [(0, .box (TPrefix.c p0)), (1, .box (TPrefix.c q1))]) (next' := 2) rfl rfl rfl rfl rfl rfl rfl ?_
 refine GX.m rfl ?_
 refine GX.done ?_
 refine WK.sr mixed ?_
 refine GX.q (.agg (TPrefix.c p0)) ?_
 generalize hc6 : F38_crossroadsref03_May p0 = c6 at hR
 try dsimp only at hR
 refine GX.callp (r := .bool c6) rfl rfl rfl (f38_ok p0 _ hc6) rfl rfl ?_
 refine GX.m rfl ?_
 rcases bool_two (c6) with hb1 | hb1
 ·rw [hb1]; try simp only [hb1, bb] at hR
  iterate 2 refine GX.skip rfl rfl ?_
  refine GX.q (.bool false) ?_
  refine GX.m rfl ?_
  iterate 5 refine GX.skip rfl rfl ?_
  refine GX.q (.bool false) ?_
  refine GX.m rfl ?_
  iterate 4 refine GX.skip rfl rfl ?_
  refine GX.q (.bool false) ?_
  refine GX.m rfl ?_
  refine GX.done ?_
  refine WK.ret ?_
  subst hR
  exact RetQ.fr [] (.inr rfl) rfl rfl rfl rfl
 ·rw [hb1]; try simp only [hb1, bb] at hR
  refine GX.q (.agg (TPrefix.c q1)) ?_
  generalize hc9 : F38_crossroadsref03_May q1 = c9 at hR
  try dsimp only at hR
  refine GX.callp (r := .bool c9) rfl rfl rfl (f38_ok q1 _ hc9) rfl rfl ?_
  refine GX.q (.bool c9) ?_
  refine GX.m rfl ?_
  rcases bool_two (c9) with hb2 | hb2
  ·rw [hb2]; try simp only [hb2, bb] at hR
   iterate 5 refine GX.skip rfl rfl ?_
   refine GX.q (.bool false) ?_
   refine GX.m rfl ?_
   iterate 4 refine GX.skip rfl rfl ?_
   refine GX.q (.bool false) ?_
   refine GX.m rfl ?_
   refine GX.done ?_
   refine WK.ret ?_
   subst hR
   exact RetQ.fr [] (.inr rfl) rfl rfl rfl rfl
  ·rw [hb2]; try simp only [hb2, bb] at hR
   refine GX.q (.ptr 1 1) ?_
   refine GX.q (.int .i64 q1.N) ?_
   refine GX.q (.ptr 0 1) ?_
   refine GX.q (.int .i64 p0.N) ?_
   iterate 2 refine GX.q (.bool (decide (p0.N ≤ q1.N))) ?_
   refine GX.m rfl ?_
   rcases bool_two (decide (p0.N ≤ q1.N)) with hb3 | hb3
   ·rw [hb3]; try simp only [hb3, bb] at hR
    iterate 4 refine GX.skip rfl rfl ?_
    refine GX.q (.bool false) ?_
    refine GX.m rfl ?_
    refine GX.done ?_
    refine WK.ret ?_
    subst hR
    exact RetQ.fr [] (.inr rfl) rfl rfl rfl rfl
   ·rw [hb3]; try simp only [hb3, bb] at hR
    refine GX.q (.agg (TPrefix.c p0)) ?_
    refine GX.q (.ptr 1 0) ?_
    refine GX.q (.int .u32 q1.A) ?_
    generalize hc22 : F71_crossroadsref03_Has p0 q1.A = c22 at hR
    try dsimp only at hR
    refine GX.callp (r := .bool c22) rfl rfl rfl (f71_ok p0 q1.A _ hc22) rfl rfl ?_
    refine GX.q (.bool c22) ?_
    refine GX.m rfl ?_
    refine GX.done ?_
    refine WK.ret ?_
    subst hR
    exact RetQ.fr [] (.inr rfl) rfl rfl rfl rfl

theorem f15_ok (x0 : TRule) (q1 : TPrefix) (R : Bool) (hR : F15_crossroadsref07_Means x0 q1 = R) : FnOk Tryz.prog 15 [.agg (TRule.c x0), .agg (TPrefix.c q1)] [] 0 (.bool R) [] 0 := by
 refine FnOk.wk i15 rfl rfl ?_
 unfold F15_crossroadsref07_Means at hR
 change WK _ _ _ [ac15] _ ⟨[(0, .agg (TRule.c x0)), (1, .agg (TPrefix.c q1))], [], 0⟩
 unfold ac15
 refine WK.sr mixed ?_
 refine GX.step (v' := .ptr 0 0) (heap' := [(0, .box (TRule.c x0))]) (next' := 1) rfl rfl rfl rfl rfl rfl rfl ?_
 refine GX.step (v' := .ptr 1 0) (heap' := [(0, .box (TRule.c x0)), (1, .box (TPrefix.c q1))]) (next' := 2) rfl rfl rfl rfl rfl rfl rfl ?_
 refine GX.m rfl ?_
 refine GX.done ?_
 refine WK.sr mixed ?_
 refine GX.q (.agg (TRule.c x0)) ?_
 generalize hc9 : F41_crossroadsref07_Bounds x0 = c9 at hR
 obtain ⟨c9a, c9b⟩ := c9; try dsimp only at hR
 refine GX.callp (r := .tup [.int .i64 c9a, .int .i64 c9b]) rfl rfl rfl (f41_ok x0 _ hc9) rfl rfl ?_
 refine GX.m rfl ?_
 refine GX.q (.int .i64 c9a) ?_
 refine GX.q (.int .i64 c9b) ?_
 iterate 2 refine GX.m rfl ?_
 refine GX.done ?_
 refine WK.sr mixed ?_
 refine GX.q (.agg (TRule.c x0)) ?_
 generalize hc13 : F12_crossroadsref07_May x0 = c13 at hR
 try dsimp only at hR
 refine GX.callp (r := .bool c13) rfl rfl rfl (f12_ok x0 _ hc13) rfl rfl ?_
 refine GX.m rfl ?_
 rcases bool_two (c13) with hb1 | hb1
 ·rw [hb1]; try simp only [hb1, bb] at hR
  iterate 4 refine GX.skip rfl rfl ?_
  refine GX.q (.bool false) ?_
  refine GX.m rfl ?_
  iterate 4 refine GX.skip rfl rfl ?_
  refine GX.q (.bool false) ?_
  refine GX.m rfl ?_
  iterate 4 refine GX.skip rfl rfl ?_
  refine GX.q (.bool false) ?_
  refine GX.m rfl ?_
  refine GX.done ?_
  refine WK.ret ?_
  subst hR
  exact RetQ.fr [] (.inr rfl) rfl rfl rfl rfl
 ·rw [hb1]; try simp only [hb1, bb] at hR
  refine GX.q (.ptr 0 2) ?_
  refine GX.q (.agg [.int .u32 x0.P.A, .int .i64 x0.P.N]) ?_
  refine GX.q (.agg (TPrefix.c q1)) ?_
  generalize hc18 : F42_crossroadsref03_Covers x0.P q1 = c18 at hR
  try dsimp only at hR
  refine GX.callp (r := .bool c18) rfl rfl rfl (f42_ok x0.P q1 _ hc18) rfl rfl ?_
  refine GX.q (.bool c18) ?_
  refine GX.m rfl ?_
  rcases bool_two (c18) with hb2 | hb2
  ·rw [hb2]; try simp only [hb2, bb] at hR
   iterate 4 refine GX.skip rfl rfl ?_
   refine GX.q (.bool false) ?_
   refine GX.m rfl ?_
   iterate 4 refine GX.skip rfl rfl ?_
   refine GX.q (.bool false) ?_
   refine GX.m rfl ?_
   refine GX.done ?_
   refine WK.ret ?_
   subst hR
   exact RetQ.fr [] (.inr rfl) rfl rfl rfl rfl
  ·rw [hb2]; try simp only [hb2, bb] at hR
   refine GX.q (.ptr 1 1) ?_
   refine GX.q (.int .i64 q1.N) ?_
   refine GX.m rfl ?_
   iterate 2 refine GX.q (.bool (decide (c9a ≤ q1.N))) ?_
   refine GX.m rfl ?_
   rcases bool_two (decide (c9a ≤ q1.N)) with hb3 | hb3
   ·rw [hb3]; try simp only [hb3, bb] at hR
    iterate 4 refine GX.skip rfl rfl ?_
    refine GX.q (.bool false) ?_
    refine GX.m rfl ?_
    refine GX.done ?_
    refine WK.ret ?_
    subst hR
    exact RetQ.fr [] (.inr rfl) rfl rfl rfl rfl
   ·rw [hb3]; try simp only [hb3, bb] at hR
    refine GX.q (.ptr 1 1) ?_
    refine GX.q (.int .i64 q1.N) ?_
    refine GX.m rfl ?_
    iterate 2 refine GX.q (.bool (decide (q1.N ≤ c9b))) ?_
    refine GX.m rfl ?_
    refine GX.done ?_
    refine WK.ret ?_
    subst hR
    exact RetQ.fr [] (.inr rfl) rfl rfl rfl rfl

theorem f18_ok (l0 : List TRule) (R : Bool) (hR : F18_crossroadsref07_MayAll l0 = R) : FnOk Tryz.prog 18 [.ro 6 (l0.map TRule.c)] [] 0 (.bool R) [] 0 := by
 refine FnOk.wk i18 rfl rfl ?_
 unfold F18_crossroadsref07_MayAll at hR
 change WK _ _ _ [ac18] _ ⟨[(0, .ro 6 (l0.map TRule.c))], [], 0⟩
 unfold ac18
 refine WK.sr mixed ?_
 refine GX.m rfl ?_
 refine GX.done ?_
 refine WK.seq ?_
 refine WK.sr mixed ?_
 refine GX.m rfl ?_
 refine GX.done ?_
 refine WK.len (t := 0) rfl (by simp) (fun hlen_1 => ?_)
 rw [List.length_map] at hlen_1
 generalize hZ_1 : F18_crossroadsref07_MayAll_l1 l0 0 l0 = Z_1 at hR
 refine WK.forK (fun k s => ∃ (i3 : Nat), i3 ≤ l0.length ∧ k = l0.length - i3 ∧ F18_crossroadsref07_MayAll_l1 l0 i3 (l0.drop i3) = Z_1 ∧ s = ⟨[(0, .ro 6 (l0.map TRule.c)), (3, .int .i64 (i3 : Int))], [], 0⟩) l0.length ⟨⟨[(0, .ro 6 (l0.map TRule.c)), (3, .int .i64 (0 : Int))], [], 0⟩, Conv.keep [] [] [0, 3] rfl rfl (viewE_cons rfl rfl (viewE_cons rfl rfl viewE_nil)) rfl rfl, 0, (by omega), rfl, hZ_1, rfl⟩ ?_
 rintro _ _ ⟨i3, hi_1, rfl, hL_1, rfl⟩ again_1 out_1 Q_1 hagain_1 hout_1 hQ_1
 refine WK.seq ?_
 refine WK.sr mixed ?_
 iterate 2 refine GX.m rfl ?_
 refine GX.pure (v' := .int .i64 (l0.length : Int)) rfl rfl rfl rfl (len_map _ _) ?_
 refine GX.q (.bool (decide ((i3 : Int) < (l0.length : Int)))) ?_
 refine GX.done ?_
 rcases bool_two (decide ((i3 : Int) < (l0.length : Int))) with hb2 | hb2
 ·rw [hb2]
  rw [drop_end hb2, F18_crossroadsref07_MayAll_l1] at hL_1
  refine WK.condF rfl ?_
  refine WK.exit ?_
  refine QF.exit (hout_1 _ ?_)
  subst hL_1
  try dsimp only [cond_true, cond_false] at hR
  refine WK.sr mixed ?_
  refine GX.m rfl ?_
  refine GX.done ?_
  refine WK.ret ?_
  subst hR
  exact RetQ.fr [] (.inr rfl) rfl rfl rfl rfl
 ·rw [hb2]
  obtain ⟨x3, hx1, hd1, hlt1⟩ := drop_more hb2
  rw [hd1, F18_crossroadsref07_MayAll_l1] at hL_1
  refine WK.condT rfl ?_
  refine WK.skip ?_
  refine WK.seq ?_
  refine WK.blockK (fun _ hK3 => ?_)
  refine WK.seq ?_
  refine WK.drawn mixed ?_
  iterate 2 refine RD.m rfl ?_
  refine RD.idxT (c := TRule.c) (x := x3) rfl rfl rfl (Int.natCast_nonneg _) hx1 ?_
  refine RD.q (.agg (TRule.c x3)) ?_
  generalize hc14 : F12_crossroadsref07_May x3 = c14 at hL_1
  try dsimp only at hL_1
  refine RD.callp (r := .bool c14) rfl rfl rfl (f12_ok x3 _ hc14) rfl rfl ?_
  refine RD.q (.bool (!c14)) ?_
  refine RD.m rfl ?_
  rcases bool_two (c14) with hb4 | hb4
  ·rw [hb4]; try simp only [hb4, bb] at hL_1
   iterate 16 refine RD.skip rfl rfl ?_
   refine RD.q (.bool true) ?_
   refine RD.done rfl ?_
   refine WK.condT rfl ?_
   refine WK.sr mixed ?_
   refine GX.m rfl ?_
   refine GX.done ?_
   refine WK.ret ?_
   refine QF.ret ?_
   refine QF.ret (hQ_1 _ _ ?_)
   subst hL_1
   subst hR
   exact RetQ.fr [] (.inr rfl) rfl rfl rfl rfl
  ·rw [hb4]; try simp only [hb4, bb] at hL_1
   refine RD.m rfl ?_
   refine RD.q (.bool (decide (0 < (i3 : Int)))) ?_
   refine RD.m rfl ?_
   rcases bool_two (decide (0 < (i3 : Int))) with hb5 | hb5
   ·rw [hb5]; try simp only [hb5, bb] at hL_1
    iterate 12 refine RD.skip rfl rfl ?_
    iterate 2 refine RD.q (.bool false) ?_
    refine RD.done rfl ?_
    refine WK.condF rfl ?_
    refine WK.skip ?_
    refine WK.nil (QF.normal (hK3 _ ?_))
    refine WK.regx mixed ?_
    refine GX.m rfl ?_
    refine GX.pure (v' := .int .i64 ((i3 + 1 : Nat) : Int)) rfl rfl rfl rfl (congrArg (PVal.int .i64) (wrap_up hlt1 hlen_1)) ?_
    refine GX.m rfl ?_
    refine GX.done ?_
    refine WK.nil (QF.normal ?_)
    exact hagain_1 _ (l0.length - (i3 + 1)) ⟨[(0, .ro 6 (l0.map TRule.c)), (3, .int .i64 ((i3 + 1) : Int))], [], 0⟩ (by omega) (Conv.keep [] [] [0, 3] rfl rfl (viewE_cons rfl rfl (viewE_cons rfl rfl viewE_nil)) rfl rfl) ⟨i3 + 1, (by omega), rfl, hL_1, rfl⟩
   ·rw [hb5]; try simp only [hb5, bb] at hL_1
    iterate 2 refine RD.m rfl ?_
    refine RD.idxT (c := TRule.c) (x := x3) rfl rfl rfl (Int.natCast_nonneg _) hx1 ?_
    refine RD.q (.rptr (TRule.c x3)) ?_
    refine RD.q (.int .i64 x3.Seq) ?_
    iterate 2 refine RD.m rfl ?_
    refine RD.pure (v' := .int .i64 ((i3 - 1 : Nat) : Int)) rfl rfl rfl rfl (congrArg (PVal.int .i64) (wrap_down hb5 hlt1 hlen_1)) ?_
    refine RD.idxT (c := TRule.c) (x := (l0.getD (i3 - 1) default)) rfl rfl rfl (Int.natCast_nonneg _) (getD_at (by omega)) ?_
    refine RD.q (.rptr [.int .i64 ((l0.getD (i3 - 1) default).Seq), .bool ((l0.getD (i3 - 1) default).Permit), .int .u32 (((l0.getD (i3 - 1) default).P).A), .int .i64 (((l0.getD (i3 - 1) default).P).N), .int .i64 ((l0.getD (i3 - 1) default).Ge), .int .i64 ((l0.getD (i3 - 1) default).Le)]) ?_
    refine RD.q (.int .i64 ((l0.getD (i3 - 1) default).Seq)) ?_
    iterate 3 refine RD.q (.bool (decide (x3.Seq ≤ (l0.getD (i3 - 1) default).Seq))) ?_
    refine RD.done rfl ?_
    rcases bool_two (decide (x3.Seq ≤ (l0.getD (i3 - 1) default).Seq)) with hb6 | hb6
    ·rw [hb6]; try simp only [hb6, bb] at hL_1
     refine WK.condF rfl ?_
     refine WK.skip ?_
     refine WK.nil (QF.normal (hK3 _ ?_))
     refine WK.regx mixed ?_
     refine GX.m rfl ?_
     refine GX.pure (v' := .int .i64 ((i3 + 1 : Nat) : Int)) rfl rfl rfl rfl (congrArg (PVal.int .i64) (wrap_up hlt1 hlen_1)) ?_
     refine GX.m rfl ?_
     refine GX.done ?_
     refine WK.nil (QF.normal ?_)
     exact hagain_1 _ (l0.length - (i3 + 1)) ⟨[(0, .ro 6 (l0.map TRule.c)), (3, .int .i64 ((i3 + 1) : Int))], [], 0⟩ (by omega) (Conv.keep [] [] [0, 3] rfl rfl (viewE_cons rfl rfl (viewE_cons rfl rfl viewE_nil)) rfl rfl) ⟨i3 + 1, (by omega), rfl, hL_1, rfl⟩
    ·rw [hb6]; try simp only [hb6, bb] at hL_1
     refine WK.condT rfl ?_
     refine WK.sr mixed ?_
     refine GX.m rfl ?_
     refine GX.done ?_
     refine WK.ret ?_
     refine QF.ret ?_
     refine QF.ret (hQ_1 _ _ ?_)
     subst hL_1
     subst hR
     exact RetQ.fr [] (.inr rfl) rfl rfl rfl rfl

theorem f19_ok (l0 : List TRule) (R : (List TRule)) (hR : F19_crossroadslaw07_rows l0 = some R) : FnOk Tryz.prog 19 [.ro 6 (l0.map TRule.c)] [] 0 (.ro 6 (R.map TRule.c)) [] 0 := by
 refine FnOk.wk i19 rfl rfl ?_
 unfold F19_crossroadslaw07_rows at hR
 try dsimp only at hR
 change WK _ _ _ [ac19] _ ⟨[(0, .ro 6 (l0.map TRule.c))], [], 0⟩
 unfold ac19
 refine WK.sr mixed ?_
 refine GX.m rfl ?_
 refine GX.done ?_
 refine WK.sr mixed ?_
 refine GX.step (v' := .own 0 6 0 (([] : List TRule)).length) (heap' := [(0, .row 6 34 (([] : List TRule).map TRule.c))]) (next' := 1) rfl rfl rfl rfl rfl rfl rfl ?_
 refine GX.m rfl ?_
 refine GX.done ?_
 refine WK.seq ?_
 refine WK.sr mixed ?_
 refine GX.m rfl ?_
 refine GX.done ?_
 refine WK.len (t := 0) rfl (by simp) (fun hlen_4 => ?_)
 rw [List.length_map] at hlen_4
 generalize hZ_4 : F19_crossroadslaw07_rows_l1 ([] : List TRule) l0 = Z_4 at hR
 refine WK.forK (fun k s => ∃ (i4 : Nat) (out3 : List TRule), i4 ≤ l0.length ∧ k = l0.length - i4 ∧ F19_crossroadslaw07_rows_l1 out3 (l0.drop i4) = Z_4 ∧ s = ⟨[(0, .ro 6 (l0.map TRule.c)), (3, .own 0 6 0 out3.length), (4, .int .i64 (i4 : Int))], [(0, .row 6 34 (out3.map TRule.c))], 1⟩) l0.length ⟨⟨[(0, .ro 6 (l0.map TRule.c)), (3, .own 0 6 0 ([] : List TRule).length), (4, .int .i64 (0 : Int))], [(0, .row 6 34 (([] : List TRule).map TRule.c))], 1⟩, Conv.keep [0] [] [0, 3, 4] rfl rfl (viewE_cons rfl rfl (viewE_cons rfl rfl (viewE_cons rfl rfl viewE_nil))) rfl rfl, 0, ([] : List TRule), (by omega), rfl, hZ_4, rfl⟩ ?_
 rintro _ _ ⟨i4, out3, hi_4, rfl, hL_4, rfl⟩ again_4 out_4 Q_4 hagain_4 hout_4 hQ_4
 refine WK.seq ?_
 refine WK.sr mixed ?_
 iterate 2 refine GX.m rfl ?_
 refine GX.pure (v' := .int .i64 (l0.length : Int)) rfl rfl rfl rfl (len_map _ _) ?_
 refine GX.q (.bool (decide ((i4 : Int) < (l0.length : Int)))) ?_
 refine GX.done ?_
 rcases bool_two (decide ((i4 : Int) < (l0.length : Int))) with hb5 | hb5
 ·rw [hb5]
  rw [drop_end hb5, F19_crossroadslaw07_rows_l1] at hL_4
  refine WK.condF rfl ?_
  refine WK.exit ?_
  refine QF.exit (hout_4 _ ?_)
  subst hL_4
  try dsimp only [cond_true, cond_false] at hR
  refine WK.sr mixed ?_
  iterate 2 refine GX.m rfl ?_
  refine GX.done ?_
  refine WK.ret ?_
  obtain rfl := Option.some.inj hR
  exact RetQ.fr [0] (.inr rfl) rfl rfl (viewGo_cons (view_rowT rfl rfl) viewGo_nil) rfl
 ·rw [hb5]
  obtain ⟨x4, hx4, hd4, hlt4⟩ := drop_more hb5
  rw [hd4, F19_crossroadslaw07_rows_l1] at hL_4
  refine WK.condT rfl ?_
  refine WK.skip ?_
  refine WK.seq ?_
  refine WK.blockK (fun _ hK6 => ?_)
  refine WK.regx mixed ?_
  iterate 3 refine GX.m rfl ?_
  refine GX.idxT (c := TRule.c) (x := x4) rfl rfl rfl (Int.natCast_nonneg _) hx4 ?_
  refine GX.q (.agg (TRule.c x4)) ?_
  generalize hc17 : F13_crossroadslaw07_plain x4 = c17 at hL_4
  try dsimp only at hL_4
  refine GX.callp (r := .agg [.int .i64 c17.Seq, .bool c17.Permit, .int .u32 c17.P.A, .int .i64 c17.P.N, .int .i64 c17.Ge, .int .i64 c17.Le]) rfl rfl rfl (f13_ok x4 _ hc17) rfl rfl ?_
  refine GX.step (v' := .own 1 6 0 (([c17] : List TRule)).length) (heap' := [(0, .row 6 34 (out3.map TRule.c)), (1, .row 6 34 (([c17] : List TRule).map TRule.c))]) (next' := 2) rfl rfl rfl rfl rfl rfl rfl ?_
  rcases bool_two (decide (out3.length < 1099511627776)) with hg7 | hg7
  ·simp only [hg7, bb] at hL_4
   try dsimp only at hL_4
   subst hL_4
   try dsimp only at hR
   cases hR
  simp only [hg7, bb] at hL_4
  have hg7_ := of_decide_eq_true hg7
  refine GX.appT (c := TRule.c) (L := out3) (X := ([c17] : List TRule)) (heap' := [(1, .row 6 34 (([c17] : List TRule).map TRule.c)), (2, .row 6 34 ((out3 ++ ([c17] : List TRule)).map TRule.c))]) (next' := 3) rfl rfl rfl rfl (elems_own rfl) (by ((try simp only [List.length_append, List.length_cons, List.length_nil, List.length_map, decide_eq_true_eq, decide_eq_false_iff_not] at *) <;> omega)) (by ((try simp only [List.length_append, List.length_cons, List.length_nil, List.length_map, decide_eq_true_eq, decide_eq_false_iff_not] at *) <;> omega)) rfl rfl rfl rfl ?_
  refine GX.m rfl ?_
  refine GX.done ?_
  refine WK.nil (QF.normal (hK6 _ ?_))
  refine WK.regx mixed ?_
  refine GX.m rfl ?_
  refine GX.pure (v' := .int .i64 ((i4 + 1 : Nat) : Int)) rfl rfl rfl rfl (congrArg (PVal.int .i64) (wrap_up hlt4 hlen_4)) ?_
  refine GX.m rfl ?_
  refine GX.done ?_
  refine WK.nil (QF.normal ?_)
  exact hagain_4 _ (l0.length - (i4 + 1)) ⟨[(0, .ro 6 (l0.map TRule.c)), (3, .own 0 6 0 (out3 ++ ([c17] : List TRule)).length), (4, .int .i64 ((i4 + 1) : Int))], [(0, .row 6 34 ((out3 ++ ([c17] : List TRule)).map TRule.c))], 1⟩ (by omega) (Conv.keep [2] [] [0, 3, 4] rfl rfl (viewE_cons rfl rfl (viewE_cons rfl rfl (viewE_cons rfl rfl viewE_nil))) rfl rfl) ⟨i4 + 1, (out3 ++ ([c17] : List TRule)), (by omega), rfl, hL_4, rfl⟩

theorem f51_ok (s0 : List TRule) (gf1 : FuncId) (gf1f gf1c : List PVal) (hf1 : TRule → Bool) (gf1k : PVal.closed.go gf1f = true ∧ PVal.closed.go gf1c = true) (gf1o : ∀ (y0 : TRule) (R : Bool), hf1 y0 = R → FnOk Tryz.prog gf1 (gf1f ++ [.agg (TRule.c y0)] ++ gf1c) [] 0 (.bool R) [] 0) (R : Int) (hR : F51_slices_IndexFunc s0 hf1 = R) : FnOk Tryz.prog 51 [.ro 6 (s0.map TRule.c), .fn gf1 gf1f gf1c] [] 0 (.int .i64 R) [] 0 := by
 refine FnOk.wk i51 rfl rfl ?_
 unfold F51_slices_IndexFunc at hR
 change WK _ _ _ [ac51] _ ⟨[(0, .ro 6 (s0.map TRule.c)), (1, .fn gf1 gf1f gf1c)], [], 0⟩
 unfold ac51
 refine WK.sr mixed ?_
 refine GX.m rfl ?_
 refine GX.done ?_
 refine WK.seq ?_
 refine WK.sr mixed ?_
 refine GX.m rfl ?_
 refine GX.pure (v' := .int .i64 (s0.length : Int)) rfl rfl rfl rfl (len_map _ _) ?_
 refine GX.m rfl ?_
 refine GX.done ?_
 refine WK.len (t := 0) rfl (by simp) (fun hlen_1 => ?_)
 rw [List.length_map] at hlen_1
 generalize hZ_1 : F51_slices_IndexFunc_l1 hf1 0 s0 = Z_1 at hR
 refine WK.forK (fun k s => ∃ (i8 : Nat), i8 ≤ s0.length ∧ k = s0.length - i8 ∧ F51_slices_IndexFunc_l1 hf1 i8 (s0.drop i8) = Z_1 ∧ s = ⟨[(0, .ro 6 (s0.map TRule.c)), (1, .fn gf1 gf1f gf1c), (7, .int .i64 (s0.length : Int)), (8, .int .i64 (i8 : Int))], [], 0⟩) s0.length ⟨⟨[(0, .ro 6 (s0.map TRule.c)), (1, .fn gf1 gf1f gf1c), (7, .int .i64 (s0.length : Int)), (8, .int .i64 (0 : Int))], [], 0⟩, Conv.keep [] [] [0, 1, 7, 8] rfl rfl (viewE_cons rfl rfl (viewE_cons rfl (viewP_fnc gf1k) (viewE_cons rfl rfl (viewE_cons rfl rfl viewE_nil)))) rfl rfl, 0, (by omega), rfl, hZ_1, rfl⟩ ?_
 rintro _ _ ⟨i8, hi_1, rfl, hL_1, rfl⟩ again_1 out_1 Q_1 hagain_1 hout_1 hQ_1
 refine WK.sr mixed ?_
 refine GX.q (.bool (decide ((i8 : Int) < (s0.length : Int)))) ?_
 refine GX.done ?_
 refine WK.seq ?_
 rcases bool_two (decide ((i8 : Int) < (s0.length : Int))) with hb2 | hb2
 ·rw [hb2]
  rw [drop_end hb2, F51_slices_IndexFunc_l1] at hL_1
  refine WK.condF rfl ?_
  refine WK.exit ?_
  refine QF.exit (hout_1 _ ?_)
  subst hL_1
  try dsimp only [cond_true, cond_false] at hR
  refine WK.sr mixed ?_
  refine GX.m rfl ?_
  refine GX.done ?_
  refine WK.ret ?_
  subst hR
  exact RetQ.fr [] (.inr rfl) rfl rfl rfl rfl
 ·rw [hb2]
  obtain ⟨x8, hx1, hd1, hlt1⟩ := drop_more hb2
  rw [hd1, F51_slices_IndexFunc_l1] at hL_1
  refine WK.condT rfl ?_
  refine WK.skip ?_
  refine WK.seq ?_
  refine WK.blockK (fun _ hK3 => ?_)
  refine WK.sr mixed ?_
  iterate 2 refine GX.m rfl ?_
  refine GX.done ?_
  refine WK.sr mixed ?_
  iterate 3 refine GX.m rfl ?_
  refine GX.idxT (c := TRule.c) (x := x8) rfl rfl rfl (Int.natCast_nonneg _) hx1 ?_
  refine GX.q (.agg (TRule.c x8)) ?_
  generalize hc16 : hf1 x8 = c16 at hL_1
  try dsimp only at hL_1
  refine GX.callvp (r := .bool c16) rfl rfl rfl (gf1o x8 _ hc16) (closed3 gf1k.1 rfl gf1k.2) rfl ?_
  refine GX.done ?_
  rcases bool_two (c16) with hb4 | hb4
  ·rw [hb4]; try simp only [hb4, bb] at hL_1
   refine WK.condF rfl ?_
   refine WK.skip ?_
   refine WK.nil (QF.normal (hK3 _ ?_))
   refine WK.regx mixed ?_
   refine GX.pure (v' := .int .i64 ((i8 + 1 : Nat) : Int)) rfl rfl rfl rfl (congrArg (PVal.int .i64) (wrap_up hlt1 hlen_1)) ?_
   refine GX.m rfl ?_
   refine GX.done ?_
   refine WK.nil (QF.normal ?_)
   exact hagain_1 _ (s0.length - (i8 + 1)) ⟨[(0, .ro 6 (s0.map TRule.c)), (1, .fn gf1 gf1f gf1c), (7, .int .i64 (s0.length : Int)), (8, .int .i64 ((i8 + 1) : Int))], [], 0⟩ (by omega) (Conv.keep [] [] [0, 1, 7, 8] rfl rfl (viewE_cons rfl rfl (viewE_cons rfl (viewP_fnc gf1k) (viewE_cons rfl rfl (viewE_cons rfl rfl viewE_nil)))) rfl rfl) ⟨i8 + 1, (by omega), rfl, hL_1, rfl⟩
  ·rw [hb4]; try simp only [hb4, bb] at hL_1
   refine WK.condT rfl ?_
   refine WK.sr mixed ?_
   iterate 2 refine GX.m rfl ?_
   refine GX.done ?_
   refine WK.ret ?_
   refine QF.ret ?_
   refine QF.ret (hQ_1 _ _ ?_)
   subst hL_1
   subst hR
   exact RetQ.fr [] (.inr rfl) rfl rfl rfl rfl

theorem f48_ok (s0 : List TRule) (gf1 : FuncId) (gf1f gf1c : List PVal) (hf1 : TRule → Bool) (gf1k : PVal.closed.go gf1f = true ∧ PVal.closed.go gf1c = true) (gf1o : ∀ (y0 : TRule) (R : Bool), hf1 y0 = R → FnOk Tryz.prog gf1 (gf1f ++ [.agg (TRule.c y0)] ++ gf1c) [] 0 (.bool R) [] 0) (R : Bool) (hR : F48_slices_ContainsFunc s0 hf1 = R) : FnOk Tryz.prog 48 [.ro 6 (s0.map TRule.c), .fn gf1 gf1f gf1c] [] 0 (.bool R) [] 0 := by
 refine FnOk.wk i48 rfl rfl ?_
 unfold F48_slices_ContainsFunc at hR
 change WK _ _ _ [ac48] _ ⟨[(0, .ro 6 (s0.map TRule.c)), (1, .fn gf1 gf1f gf1c)], [], 0⟩
 unfold ac48
 refine WK.sr mixed ?_
 refine GX.m rfl ?_
 refine GX.done ?_
 refine WK.sr mixed ?_
 iterate 2 refine GX.m rfl ?_
 generalize hc7 : F51_slices_IndexFunc s0 hf1 = c7 at hR
 try dsimp only at hR
 refine GX.callp (r := .int .i64 c7) rfl rfl rfl (f51_ok s0 gf1 gf1f gf1c hf1 gf1k gf1o _ hc7) (closedGo_cons rfl (closedGo_cons (closed_fn gf1k) rfl)) rfl ?_
 refine GX.q (.bool (decide (0 ≤ c7))) ?_
 refine GX.m rfl ?_
 refine GX.done ?_
 refine WK.ret ?_
 subst hR
 exact RetQ.fr [] (.inr rfl) rfl rfl rfl rfl

theorem f50_ok (x0 : TRule) (y1 : TRule) (R : Bool) (hR : F50_plist_Rule_hides x0 y1 = R) : FnOk Tryz.prog 50 [.agg (TRule.c x0), .agg (TRule.c y1)] [] 0 (.bool R) [] 0 := by
 refine FnOk.wk i50 rfl rfl ?_
 unfold F50_plist_Rule_hides at hR
 change WK _ _ _ [ac50] _ ⟨[(0, .agg (TRule.c x0)), (1, .agg (TRule.c y1))], [], 0⟩
 unfold ac50
 refine WK.sr mixed ?_
 refine GX.step (v' := .ptr 0 0) (heap' := [(0, .box (TRule.c x0))]) (next' := 1) rfl rfl rfl rfl rfl rfl rfl ?_
 refine GX.step (v' := .ptr 1 0) (heap' := [(0, .box (TRule.c x0)), (1, .box (TRule.c y1))]) (next' := 2) rfl rfl rfl rfl rfl rfl rfl ?_
 refine GX.m rfl ?_
 refine GX.done ?_
 refine WK.sr mixed ?_
 refine GX.q (.agg (TRule.c x0)) ?_
 generalize hc11 : F39_plist_Rule_bounds x0 = c11 at hR
 obtain ⟨c11a, c11b⟩ := c11; try dsimp only at hR
 refine GX.callp (r := .tup [.int .i64 c11a, .int .i64 c11b]) rfl rfl rfl (f39_ok x0 _ hc11) rfl rfl ?_
 refine GX.m rfl ?_
 refine GX.q (.int .i64 c11a) ?_
 refine GX.q (.int .i64 c11b) ?_
 iterate 2 refine GX.m rfl ?_
 refine GX.done ?_
 refine WK.sr mixed ?_
 refine GX.q (.agg (TRule.c y1)) ?_
 generalize hc16 : F39_plist_Rule_bounds y1 = c16 at hR
 obtain ⟨c16a, c16b⟩ := c16; try dsimp only at hR
 refine GX.callp (r := .tup [.int .i64 c16a, .int .i64 c16b]) rfl rfl rfl (f39_ok y1 _ hc16) rfl rfl ?_
 refine GX.m rfl ?_
 refine GX.q (.int .i64 c16a) ?_
 refine GX.q (.int .i64 c16b) ?_
 iterate 2 refine GX.m rfl ?_
 refine GX.done ?_
 refine WK.sr mixed ?_
 refine GX.q (.ptr 0 2) ?_
 refine GX.q (.agg [.int .u32 x0.P.A, .int .i64 x0.P.N]) ?_
 refine GX.q (.ptr 1 2) ?_
 refine GX.q (.agg [.int .u32 y1.P.A, .int .i64 y1.P.N]) ?_
 generalize hc23 : F40_addr_Covers x0.P y1.P = c23 at hR
 try dsimp only at hR
 refine GX.callp (r := .bool c23) rfl rfl rfl (f40_ok x0.P y1.P _ hc23) rfl rfl ?_
 refine GX.m rfl ?_
 rcases bool_two (c23) with hb1 | hb1
 ·rw [hb1]; try simp only [hb1, bb] at hR
  iterate 3 refine GX.skip rfl rfl ?_
  refine GX.q (.bool false) ?_
  refine GX.m rfl ?_
  iterate 3 refine GX.skip rfl rfl ?_
  refine GX.q (.bool false) ?_
  refine GX.m rfl ?_
  refine GX.done ?_
  refine WK.ret ?_
  subst hR
  exact RetQ.fr [] (.inr rfl) rfl rfl rfl rfl
 ·rw [hb1]; try simp only [hb1, bb] at hR
  iterate 2 refine GX.m rfl ?_
  iterate 2 refine GX.q (.bool (decide (c11a ≤ c16a))) ?_
  refine GX.m rfl ?_
  rcases bool_two (decide (c11a ≤ c16a)) with hb2 | hb2
  ·rw [hb2]; try simp only [hb2, bb] at hR
   iterate 3 refine GX.skip rfl rfl ?_
   refine GX.q (.bool false) ?_
   refine GX.m rfl ?_
   refine GX.done ?_
   refine WK.ret ?_
   subst hR
   exact RetQ.fr [] (.inr rfl) rfl rfl rfl rfl
  ·rw [hb2]; try simp only [hb2, bb] at hR
   iterate 2 refine GX.m rfl ?_
   iterate 2 refine GX.q (.bool (decide (c16b ≤ c11b))) ?_
   refine GX.m rfl ?_
   refine GX.done ?_
   refine WK.ret ?_
   subst hR
   exact RetQ.fr [] (.inr rfl) rfl rfl rfl rfl

theorem f49_ok (x0 : TRule) (a1 : TRule) (R : Bool) (hR : F49_plist_Idle_1 x0 a1 = R) : FnOk Tryz.prog 49 [.agg (TRule.c x0), .rptr (TRule.c a1)] [] 0 (.bool R) [] 0 := by
 refine FnOk.wk i49 rfl rfl ?_
 unfold F49_plist_Idle_1 at hR
 change WK _ _ _ [ac49] _ ⟨[(0, .agg (TRule.c x0)), (1, .rptr (TRule.c a1))], [], 0⟩
 unfold ac49
 refine WK.sr mixed ?_
 refine GX.step (v' := .ptr 0 0) (heap' := [(0, .box (TRule.c x0))]) (next' := 1) rfl rfl rfl rfl rfl rfl rfl ?_
 refine GX.m rfl ?_
 refine GX.done ?_
 refine WK.sr mixed ?_
 refine GX.q (.agg (TRule.c x0)) ?_
 refine GX.q (.agg (TRule.c a1)) ?_
 generalize hc6 : F50_plist_Rule_hides x0 a1 = c6 at hR
 try dsimp only at hR
 refine GX.callp (r := .bool c6) rfl rfl rfl (f50_ok x0 a1 _ hc6) rfl rfl ?_
 refine GX.m rfl ?_
 refine GX.done ?_
 refine WK.ret ?_
 subst hR
 exact RetQ.fr [] (.inr rfl) rfl rfl rfl rfl

theorem f20_ok (l0 : List TRule) (R : (List Int)) (hR : F20_plist_Idle l0 = some R) : FnOk Tryz.prog 20 [.ro 6 (l0.map TRule.c)] [] 0 (.ro 1 (R.map c_i64)) [] 0 := by
 refine FnOk.wk i20 rfl rfl ?_
 unfold F20_plist_Idle at hR
 try dsimp only at hR
 change WK _ _ _ [ac20] _ ⟨[(0, .ro 6 (l0.map TRule.c))], [], 0⟩
 unfold ac20
 refine WK.sr mixed ?_
 refine GX.m rfl ?_
 refine GX.done ?_
 refine WK.sr mixed ?_
 refine GX.m rfl ?_
 refine GX.done ?_
 refine WK.seq ?_
 refine WK.sr mixed ?_
 refine GX.m rfl ?_
 refine GX.pure (v' := .int .i64 (l0.length : Int)) rfl rfl rfl rfl (len_map _ _) ?_
 refine GX.m rfl ?_
 refine GX.done ?_
 refine WK.adopt (t := 3) (sz := 1) (ty := 3) (heap' := [(0, .row 1 3 (([] : List Int).map c_i64))]) rfl (by decide) (by simp) rfl ?_
 refine WK.len (t := 0) rfl (by simp) (fun hlen_13 => ?_)
 rw [List.length_map] at hlen_13
 generalize hZ_13 : F20_plist_Idle_l1 l0 ([] : List Int) 0 l0 = Z_13 at hR
 refine WK.forK (fun k s => ∃ (i8 : Nat) (out3 : List Int), i8 ≤ l0.length ∧ k = l0.length - i8 ∧ F20_plist_Idle_l1 l0 out3 i8 (l0.drop i8) = Z_13 ∧ s = ⟨[(0, .ro 6 (l0.map TRule.c)), (3, .own 0 1 0 out3.length), (6, .ro 6 (l0.map TRule.c)), (7, .int .i64 (l0.length : Int)), (8, .int .i64 (i8 : Int))], [(0, .row 1 3 (out3.map c_i64))], 1⟩) l0.length ⟨⟨[(0, .ro 6 (l0.map TRule.c)), (3, .own 0 1 0 ([] : List Int).length), (6, .ro 6 (l0.map TRule.c)), (7, .int .i64 (l0.length : Int)), (8, .int .i64 (0 : Int))], [(0, .row 1 3 (([] : List Int).map c_i64))], 1⟩, Conv.keep [0] [] [0, 3, 6, 7, 8] rfl rfl (viewE_cons rfl rfl (viewE_cons rfl rfl (viewE_cons rfl rfl (viewE_cons rfl rfl (viewE_cons rfl rfl viewE_nil))))) rfl rfl, 0, ([] : List Int), (by omega), rfl, hZ_13, rfl⟩ ?_
 rintro _ _ ⟨i8, out3, hi_13, rfl, hL_13, rfl⟩ again_13 out_13 Q_13 hagain_13 hout_13 hQ_13
 refine WK.sr mixed ?_
 refine GX.q (.bool (decide ((i8 : Int) < (l0.length : Int)))) ?_
 refine GX.done ?_
 refine WK.seq ?_
 rcases bool_two (decide ((i8 : Int) < (l0.length : Int))) with hb14 | hb14
 ·rw [hb14]
  rw [drop_end hb14, F20_plist_Idle_l1] at hL_13
  refine WK.condF rfl ?_
  refine WK.exit ?_
  refine QF.exit (hout_13 _ ?_)
  subst hL_13
  try dsimp only [cond_true, cond_false] at hR
  refine WK.sr mixed ?_
  iterate 2 refine GX.m rfl ?_
  refine GX.done ?_
  refine WK.ret ?_
  obtain rfl := Option.some.inj hR
  exact RetQ.fr [0] (.inr rfl) rfl rfl (viewGo_cons (view_rowT rfl rfl) viewGo_nil) rfl
 ·rw [hb14]
  obtain ⟨x8, hx13, hd13, hlt13⟩ := drop_more hb14
  rw [hd13, F20_plist_Idle_l1] at hL_13
  refine WK.condT rfl ?_
  refine WK.skip ?_
  refine WK.seq ?_
  refine WK.blockK (fun _ hK15 => ?_)
  refine WK.sr mixed ?_
  refine GX.m rfl ?_
  refine GX.idxT (c := TRule.c) (x := x8) rfl rfl rfl (Int.natCast_nonneg _) hx13 ?_
  refine GX.q (.agg (TRule.c x8)) ?_
  refine GX.step (v' := .ptr 1 0) (heap' := [(0, .row 1 3 (out3.map c_i64)), (1, .box [.int .i64 0, .bool false, .int .u32 0, .int .i64 0, .int .i64 0, .int .i64 0])]) (next' := 2) rfl rfl rfl rfl rfl rfl rfl ?_
  refine GX.m rfl ?_
  refine GX.step0 (heap' := [(0, .row 1 3 (out3.map c_i64)), (1, .box (TRule.c x8))]) (next' := 2) rfl rfl rfl rfl rfl ?_
  refine GX.done ?_
  refine WK.sr mixed ?_
  iterate 2 refine GX.m rfl ?_
  rcases bool_two (decide ((0 : Int) ≤ (i8 : Int))) with hg16 | hg16
  ·simp only [hg16, bb] at hL_13
   try dsimp only at hL_13
   subst hL_13
   try dsimp only at hR
   cases hR
  simp only [hg16, bb] at hL_13
  have hg16_ := of_decide_eq_true hg16
  rcases bool_two (decide ((i8 : Int) ≤ (l0.length : Int))) with hg17 | hg17
  ·simp only [hg17, bb] at hL_13
   try dsimp only at hL_13
   subst hL_13
   try dsimp only at hR
   cases hR
  simp only [hg17, bb] at hL_13
  have hg17_ := of_decide_eq_true hg17
  refine GX.sliceHi (c := TRule.c) (M := (l0.take i8)) rfl rfl rfl (by omega) (by omega) rfl ?_
  refine GX.q (.fn 49 [] [.ptr 1 0]) ?_
  generalize hc17 : F48_slices_ContainsFunc (l0.take i8) (fun y0 => F49_plist_Idle_1 y0 x8) = c17 at hL_13
  try dsimp only at hL_13
  refine GX.callbp (r := .bool c17) [1] rfl rfl rfl rfl (f48_ok (l0.take i8) 49 [] [.rptr (TRule.c x8)] (fun y0 => F49_plist_Idle_1 y0 x8) ⟨rfl, rfl⟩ (fun y0 _ hr => f49_ok y0 x8 _ hr) _ hc17) rfl rfl ?_
  refine GX.done ?_
  rcases bool_two (c17) with hb18 | hb18
  ·rw [hb18]; try simp only [hb18, bb] at hL_13
   refine WK.condF rfl ?_
   refine WK.skip ?_
   refine WK.nil (QF.normal (hK15 _ ?_))
   refine WK.regx mixed ?_
   refine GX.pure (v' := .int .i64 ((i8 + 1 : Nat) : Int)) rfl rfl rfl rfl (congrArg (PVal.int .i64) (wrap_up hlt13 hlen_13)) ?_
   refine GX.m rfl ?_
   refine GX.done ?_
   refine WK.nil (QF.normal ?_)
   exact hagain_13 _ (l0.length - (i8 + 1)) ⟨[(0, .ro 6 (l0.map TRule.c)), (3, .own 0 1 0 out3.length), (6, .ro 6 (l0.map TRule.c)), (7, .int .i64 (l0.length : Int)), (8, .int .i64 ((i8 + 1) : Int))], [(0, .row 1 3 (out3.map c_i64))], 1⟩ (by omega) (Conv.keep [0] [] [0, 3, 6, 7, 8] rfl rfl (viewE_cons rfl rfl (viewE_cons rfl rfl (viewE_cons rfl rfl (viewE_cons rfl rfl (viewE_cons rfl rfl viewE_nil))))) rfl rfl) ⟨i8 + 1, out3, (by omega), rfl, hL_13, rfl⟩
  ·rw [hb18]; try simp only [hb18, bb] at hL_13
   refine WK.condT rfl ?_
   refine WK.regx mixed ?_
   refine GX.m rfl ?_
   refine GX.q (.ptr 1 0) ?_
   refine GX.q (.int .i64 x8.Seq) ?_
   refine GX.step (v' := .own 2 1 0 (([x8.Seq] : List Int)).length) (heap' := [(0, .row 1 3 (out3.map c_i64)), (1, .box (TRule.c x8)), (2, .row 1 3 (([x8.Seq] : List Int).map c_i64))]) (next' := 3) rfl rfl rfl rfl rfl rfl rfl ?_
   rcases bool_two (decide (out3.length < 1099511627776)) with hg19 | hg19
   ·simp only [hg19, bb] at hL_13
    try dsimp only at hL_13
    subst hL_13
    try dsimp only at hR
    cases hR
   simp only [hg19, bb] at hL_13
   have hg19_ := of_decide_eq_true hg19
   refine GX.appT (c := c_i64) (L := out3) (X := ([x8.Seq] : List Int)) (heap' := [(1, .box (TRule.c x8)), (2, .row 1 3 (([x8.Seq] : List Int).map c_i64)), (3, .row 1 3 ((out3 ++ ([x8.Seq] : List Int)).map c_i64))]) (next' := 4) rfl rfl rfl rfl (elems_own rfl) (by ((try simp only [List.length_append, List.length_cons, List.length_nil, List.length_map, decide_eq_true_eq, decide_eq_false_iff_not] at *) <;> omega)) (by ((try simp only [List.length_append, List.length_cons, List.length_nil, List.length_map, decide_eq_true_eq, decide_eq_false_iff_not] at *) <;> omega)) rfl rfl rfl rfl ?_
   refine GX.m rfl ?_
   refine GX.done ?_
   refine WK.nil (QF.normal (hK15 _ ?_))
   refine WK.regx mixed ?_
   refine GX.pure (v' := .int .i64 ((i8 + 1 : Nat) : Int)) rfl rfl rfl rfl (congrArg (PVal.int .i64) (wrap_up hlt13 hlen_13)) ?_
   refine GX.m rfl ?_
   refine GX.done ?_
   refine WK.nil (QF.normal ?_)
   exact hagain_13 _ (l0.length - (i8 + 1)) ⟨[(0, .ro 6 (l0.map TRule.c)), (3, .own 0 1 0 (out3 ++ ([x8.Seq] : List Int)).length), (6, .ro 6 (l0.map TRule.c)), (7, .int .i64 (l0.length : Int)), (8, .int .i64 ((i8 + 1) : Int))], [(0, .row 1 3 ((out3 ++ ([x8.Seq] : List Int)).map c_i64))], 1⟩ (by omega) (Conv.keep [3] [] [0, 3, 6, 7, 8] rfl rfl (viewE_cons rfl rfl (viewE_cons rfl rfl (viewE_cons rfl rfl (viewE_cons rfl rfl (viewE_cons rfl rfl viewE_nil))))) rfl rfl) ⟨i8 + 1, (out3 ++ ([x8.Seq] : List Int)), (by omega), rfl, hL_13, rfl⟩

theorem f52_ok (x0 : TRule) (a1 : Int) (R : Bool) (hR : F52_plist_Drop_1 x0 a1 = R) : FnOk Tryz.prog 52 [.agg (TRule.c x0), .rptr [.int .i64 a1]] [] 0 (.bool R) [] 0 := by
 refine FnOk.wk i52 rfl rfl ?_
 unfold F52_plist_Drop_1 at hR
 change WK _ _ _ [ac52] _ ⟨[(0, .agg (TRule.c x0)), (1, .rptr [.int .i64 a1])], [], 0⟩
 unfold ac52
 refine WK.sr mixed ?_
 refine GX.step (v' := .ptr 0 0) (heap' := [(0, .box (TRule.c x0))]) (next' := 1) rfl rfl rfl rfl rfl rfl rfl ?_
 refine GX.m rfl ?_
 refine GX.done ?_
 refine WK.sr mixed ?_
 refine GX.q (.ptr 0 0) ?_
 refine GX.q (.int .i64 x0.Seq) ?_
 refine GX.q (.int .i64 a1) ?_
 refine GX.q (.bool (decide (x0.Seq = a1))) ?_
 refine GX.m rfl ?_
 refine GX.done ?_
 refine WK.ret ?_
 subst hR
 exact RetQ.fr [] (.inr rfl) rfl rfl rfl rfl

theorem f21_ok (l0 : List TRule) (seq1 : Int) (R : (List TRule) × Int) (hR : F21_plist_Drop l0 seq1 = some R) : FnOk Tryz.prog 21 [.ro 6 (l0.map TRule.c), .int .i64 seq1] [] 0 (.tup [.ro 6 (R.1.map TRule.c), .int .i64 R.2]) [] 0 := by
 refine FnOk.wk i21 rfl rfl ?_
 unfold F21_plist_Drop at hR
 try dsimp only at hR
 change WK _ _ _ [ac21] _ ⟨[(0, .ro 6 (l0.map TRule.c)), (1, .int .i64 seq1)], [], 0⟩
 unfold ac21
 refine WK.sr mixed ?_
 refine GX.step (v' := .ptr 0 0) (heap' := [(0, .box [.int .i64 seq1])]) (next' := 1) rfl rfl rfl rfl rfl rfl rfl ?_
 iterate 2 refine GX.m rfl ?_
 refine GX.done ?_
 refine WK.sr mixed ?_
 refine GX.m rfl ?_
 refine GX.q (.fn 52 [] [.ptr 0 0]) ?_
 generalize hc9 : F51_slices_IndexFunc l0 (fun y0 => F52_plist_Drop_1 y0 seq1) = c9 at hR
 try dsimp only at hR
 refine GX.callbp (r := .int .i64 c9) [0] rfl rfl rfl rfl (f51_ok l0 52 [] [.rptr [.int .i64 seq1]] (fun y0 => F52_plist_Drop_1 y0 seq1) ⟨rfl, rfl⟩ (fun y0 _ hr => f52_ok y0 seq1 _ hr) _ hc9) rfl rfl ?_
 refine GX.m rfl ?_
 refine GX.done ?_
 refine WK.seq ?_
 refine WK.sr mixed ?_
 refine GX.m rfl ?_
 refine GX.q (.bool (decide (c9 < 0))) ?_
 refine GX.done ?_
 rcases bool_two (decide (c9 < 0)) with hb1 | hb1
 ·rw [hb1]; first | replace hR := cond_f hb1 hR | (try simp only [hb1, bb] at hR)
  refine WK.condF rfl ?_
  refine WK.skip ?_
  refine WK.sr mixed ?_
  refine GX.m rfl ?_
  rcases bool_two (decide (l0.length < 1099511627776)) with hg2 | hg2
  ·simp only [hg2, bb] at hR
   try dsimp only at hR
   cases hR
  simp only [hg2, bb] at hR
  have hg2_ := of_decide_eq_true hg2
  refine GX.callx (r' := .own 1 6 0 l0.length) (heap' := [(0, .box [.int .i64 seq1]), (1, .row 6 26 (l0.map TRule.c))]) (next' := 2) [] [] rfl rfl rfl rfl rfl rfl (clone_okT (c := TRule.c) mixed i54 l0 (by decide) (by omega) (by omega)) (.inl rfl) rfl rfl rfl ?_
  iterate 2 refine GX.m rfl ?_
  refine GX.q (.int .i64 (IntKind.i64.wrap (c9 + 1))) ?_
  rcases bool_two (decide ((0 : Int) ≤ c9)) with hg3 | hg3
  ·simp only [hg3, bb] at hR
   try dsimp only at hR
   cases hR
  simp only [hg3, bb] at hR
  have hg3_ := of_decide_eq_true hg3
  rcases bool_two (decide (c9 ≤ IntKind.i64.wrap (c9 + 1))) with hg4 | hg4
  ·simp only [hg4, bb] at hR
   try dsimp only at hR
   cases hR
  simp only [hg4, bb] at hR
  have hg4_ := of_decide_eq_true hg4
  rcases bool_two (decide (IntKind.i64.wrap (c9 + 1) ≤ (l0.length : Int))) with hg5 | hg5
  ·simp only [hg5, bb] at hR
   try dsimp only at hR
   cases hR
  simp only [hg5, bb] at hR
  have hg5_ := of_decide_eq_true hg5
  refine GX.callx (r' := .own 2 6 0 (del_ l0 c9 (IntKind.i64.wrap (c9 + 1))).length) (heap' := [(0, .box [.int .i64 seq1]), (2, .row 6 26 ((del_ l0 c9 (IntKind.i64.wrap (c9 + 1))).map TRule.c))]) (next' := 3) [1] [] rfl rfl rfl rfl rfl rfl (delete_okT (c := TRule.c) (fun _ => rfl) mixed i53 l0 c9 (IntKind.i64.wrap (c9 + 1)) rfl (by omega) (by omega) (by omega) (by omega)) (.inl rfl) rfl rfl rfl ?_
  iterate 2 refine GX.m rfl ?_
  refine GX.done ?_
  refine WK.ret ?_
  obtain rfl := Option.some.inj hR
  exact RetQ.fr [2] (.inr rfl) rfl rfl (viewGo_cons (view_rowT rfl rfl) (viewGo_cons rfl viewGo_nil)) rfl
 ·rw [hb1]; first | replace hR := cond_t hb1 hR | (try simp only [hb1, bb] at hR)
  refine WK.condT rfl ?_
  refine WK.sr mixed ?_
  iterate 2 refine GX.m rfl ?_
  refine GX.done ?_
  refine WK.ret ?_
  obtain rfl := Option.some.inj hR
  exact RetQ.frw [] (.inr rfl) rfl rfl rfl (.tup (.cons .nil .refl))

theorem f55_ok (x0 : TRule) (a1 : TPrefix) (R : Bool) (hR : F55_plist_Eval_1 x0 a1 = R) : FnOk Tryz.prog 55 [.agg (TRule.c x0), .rptr (TPrefix.c a1)] [] 0 (.bool R) [] 0 := by
 refine FnOk.wk i55 rfl rfl ?_
 unfold F55_plist_Eval_1 at hR
 change WK _ _ _ [ac55] _ ⟨[(0, .agg (TRule.c x0)), (1, .rptr (TPrefix.c a1))], [], 0⟩
 unfold ac55
 refine WK.sr mixed ?_
 refine GX.step (v' := .ptr 0 0) (heap' := [(0, .box (TRule.c x0))]) (next' := 1) rfl rfl rfl rfl rfl rfl rfl ?_
 refine GX.m rfl ?_
 refine GX.done ?_
 refine WK.sr mixed ?_
 refine GX.q (.agg (TRule.c x0)) ?_
 refine GX.q (.agg (TPrefix.c a1)) ?_
 generalize hc6 : F14_plist_Means x0 a1 = c6 at hR
 try dsimp only at hR
 refine GX.callp (r := .bool c6) rfl rfl rfl (f14_ok x0 a1 _ hc6) rfl rfl ?_
 refine GX.m rfl ?_
 refine GX.done ?_
 refine WK.ret ?_
 subst hR
 exact RetQ.fr [] (.inr rfl) rfl rfl rfl rfl

theorem f22_ok (l0 : List TRule) (q1 : TPrefix) (R : Bool × Int) (hR : F22_plist_Eval l0 q1 = some R) : FnOk Tryz.prog 22 [.ro 6 (l0.map TRule.c), .agg (TPrefix.c q1)] [] 0 (.tup [.bool R.1, .int .i64 R.2]) [] 0 := by
 refine FnOk.wk i22 rfl rfl ?_
 unfold F22_plist_Eval at hR
 try dsimp only at hR
 change WK _ _ _ [ac22] _ ⟨[(0, .ro 6 (l0.map TRule.c)), (1, .agg (TPrefix.c q1))], [], 0⟩
 unfold ac22
 refine WK.sr mixed ?_
 refine GX.step (v' := .ptr 0 0) (heap' := [(0, .box (TPrefix.c q1))]) (next' := 1) rfl rfl rfl rfl rfl rfl rfl ?_
 iterate 2 refine GX.m rfl ?_
 refine GX.done ?_
 refine WK.sr mixed ?_
 refine GX.m rfl ?_
 refine GX.q (.fn 55 [] [.ptr 0 0]) ?_
 generalize hc9 : F51_slices_IndexFunc l0 (fun y0 => F55_plist_Eval_1 y0 q1) = c9 at hR
 try dsimp only at hR
 refine GX.callbp (r := .int .i64 c9) [0] rfl rfl rfl rfl (f51_ok l0 55 [] [.rptr (TPrefix.c q1)] (fun y0 => F55_plist_Eval_1 y0 q1) ⟨rfl, rfl⟩ (fun y0 _ hr => f55_ok y0 q1 _ hr) _ hc9) rfl rfl ?_
 refine GX.m rfl ?_
 refine GX.done ?_
 refine WK.seq ?_
 refine WK.sr mixed ?_
 refine GX.m rfl ?_
 refine GX.q (.bool (decide (c9 < 0))) ?_
 refine GX.done ?_
 rcases bool_two (decide (c9 < 0)) with hb1 | hb1
 ·rw [hb1]; first | replace hR := cond_f hb1 hR | (try simp only [hb1, bb] at hR)
  refine WK.condF rfl ?_
  refine WK.skip ?_
  refine WK.seq ?_
  refine WK.drawn mixed ?_
  iterate 2 refine RD.m rfl ?_
  generalize hx901 : getI l0 c9 = x901 at hR
  rcases x901 with _ | x901
  ·try dsimp only at hR
   cases hR
  try dsimp only at hR
  obtain ⟨hx9010, hx901j, hx901l, hx901⟩ := getI_some hx901
  refine RD.idxT (c := TRule.c) (x := x901) rfl rfl rfl hx9010 hx901 ?_
  refine RD.q (.rptr [.bool x901.Permit, .int .u32 x901.P.A, .int .i64 x901.P.N, .int .i64 x901.Ge, .int .i64 x901.Le]) ?_
  refine RD.q (.bool x901.Permit) ?_
  iterate 2 refine RD.m rfl ?_
  refine RD.idxT (c := TRule.c) (x := x901) rfl rfl rfl hx9010 hx901 ?_
  refine RD.q (.rptr (TRule.c x901)) ?_
  refine RD.q (.int .i64 x901.Seq) ?_
  iterate 2 refine RD.m rfl ?_
  refine RD.done rfl ?_
  refine WK.ret ?_
  obtain rfl := Option.some.inj hR
  exact RetQ.fr [] (.inr rfl) rfl rfl rfl rfl
 ·rw [hb1]; first | replace hR := cond_t hb1 hR | (try simp only [hb1, bb] at hR)
  refine WK.condT rfl ?_
  refine WK.sr mixed ?_
  iterate 2 refine GX.m rfl ?_
  refine GX.done ?_
  refine WK.ret ?_
  obtain rfl := Option.some.inj hR
  exact RetQ.fr [] (.inr rfl) rfl rfl rfl rfl

theorem f74_ok (x0 : List TRule) (target1 : Int) (gcmp2 : FuncId) (gcmp2f gcmp2c : List PVal) (hcmp2 : TRule → Int → Int) (gcmp2k : PVal.closed.go gcmp2f = true ∧ PVal.closed.go gcmp2c = true) (gcmp2o : ∀ (y0 : TRule) (y1 : Int) (R : Int), hcmp2 y0 y1 = R → FnOk Tryz.prog gcmp2 (gcmp2f ++ [.agg (TRule.c y0), .int .i64 y1] ++ gcmp2c) [] 0 (.int .i64 R) [] 0) (R : Int × Bool) (hR : F74_slices_BinarySearchFunc x0 target1 hcmp2 = some R) : FnOk Tryz.prog 74 [.ro 6 (x0.map TRule.c), .int .i64 target1, .fn gcmp2 gcmp2f gcmp2c] [] 0 (.tup [.int .i64 R.1, .bool R.2]) [] 0 := by
 refine FnOk.wk i74 rfl rfl ?_
 unfold F74_slices_BinarySearchFunc at hR
 try dsimp only at hR
 change WK _ _ _ [ac74] _ ⟨[(0, .ro 6 (x0.map TRule.c)), (1, .int .i64 target1), (2, .fn gcmp2 gcmp2f gcmp2c)], [], 0⟩
 unfold ac74
 refine WK.sr mixed ?_
 iterate 2 refine GX.m rfl ?_
 refine GX.done ?_
 refine WK.sr mixed ?_
 refine GX.m rfl ?_
 refine GX.pure (v' := .int .i64 (x0.length : Int)) rfl rfl rfl rfl (len_map _ _) ?_
 refine GX.m rfl ?_
 refine GX.done ?_
 refine WK.sr mixed ?_
 iterate 3 refine GX.m rfl ?_
 refine GX.done ?_
 refine WK.seq ?_
 refine WK.len (t := 0) rfl (by simp) (fun hln0_13 => ?_)
 rw [List.length_map] at hln0_13
 generalize hZ_13 : F74_slices_BinarySearchFunc_l1 x0 target1 hcmp2 100 0 (x0.length : Int) = Z_13 at hR
 refine WK.forK (fun k s => ∃ (i9 : Int) (j10 : Int), F74_slices_BinarySearchFunc_l1 x0 target1 hcmp2 k i9 j10 = Z_13 ∧ s = ⟨[(0, .ro 6 (x0.map TRule.c)), (1, .int .i64 target1), (2, .fn gcmp2 gcmp2f gcmp2c), (8, .int .i64 (x0.length : Int)), (9, .int .i64 i9), (10, .int .i64 j10)], [], 0⟩) 100 ⟨⟨[(0, .ro 6 (x0.map TRule.c)), (1, .int .i64 target1), (2, .fn gcmp2 gcmp2f gcmp2c), (8, .int .i64 (x0.length : Int)), (9, .int .i64 0), (10, .int .i64 (x0.length : Int))], [], 0⟩, Conv.keep [] [] [0, 1, 2, 8, 9, 10] rfl rfl (viewE_cons rfl rfl (viewE_cons rfl rfl (viewE_cons rfl (viewP_fnc gcmp2k) (viewE_cons rfl rfl (viewE_cons rfl rfl (viewE_cons rfl rfl viewE_nil)))))) rfl rfl, 0, (x0.length : Int), hZ_13, rfl⟩ ?_
 rintro k13 _ ⟨i9, j10, hL_13, rfl⟩ again_13 out_13 Q_13 hagain_13 hout_13 hQ_13
 rcases k13 with _ | f13
 ·unfold F74_slices_BinarySearchFunc_l1 at hL_13
  try dsimp only at hL_13
  subst hL_13
  try dsimp only at hR
  cases hR
 unfold F74_slices_BinarySearchFunc_l1 at hL_13; try dsimp only at hL_13
 refine WK.seq ?_
 refine WK.sr mixed ?_
 iterate 2 refine GX.m rfl ?_
 refine GX.q (.bool (decide (i9 < j10))) ?_
 refine GX.done ?_
 rcases bool_two (decide (i9 < j10)) with hb14 | hb14
 ·rw [hb14]; try simp only [hb14, bb] at hL_13
  refine WK.condF rfl ?_
  refine WK.exit ?_
  refine QF.exit (hout_13 _ ?_)
  subst hL_13
  try dsimp only [cond_true, cond_false] at hR
  refine WK.sr mixed ?_
  iterate 3 refine GX.m rfl ?_
  refine GX.q (.bool (decide (i9 < (x0.length : Int)))) ?_
  refine GX.m rfl ?_
  rcases bool_two (decide (i9 < (x0.length : Int))) with hb15 | hb15
  ·rw [hb15]; first | replace hR := cond_f hb15 hR | (try simp only [hb15, bb] at hR)
   iterate 8 refine GX.skip rfl rfl ?_
   refine GX.q (.bool false) ?_
   iterate 2 refine GX.m rfl ?_
   refine GX.done ?_
   refine WK.ret ?_
   obtain rfl := Option.some.inj hR
   exact RetQ.fr [] (.inr rfl) rfl rfl rfl rfl
  ·rw [hb15]; first | replace hR := cond_t hb15 hR | (try simp only [hb15, bb] at hR)
   iterate 3 refine GX.m rfl ?_
   generalize hx915 : getI x0 i9 = x915 at hR
   rcases x915 with _ | x915
   ·try dsimp only at hR
    cases hR
   try dsimp only at hR
   obtain ⟨hx9150, hx915j, hx915l, hx915⟩ := getI_some hx915
   refine GX.idxT (c := TRule.c) (x := x915) rfl rfl rfl hx9150 hx915 ?_
   refine GX.q (.agg (TRule.c x915)) ?_
   refine GX.m rfl ?_
   generalize hc46 : hcmp2 x915 target1 = c46 at hR
   try dsimp only at hR
   refine GX.callvp (r := .int .i64 c46) rfl rfl rfl (gcmp2o x915 target1 _ hc46) (closed3 gcmp2k.1 rfl gcmp2k.2) rfl ?_
   iterate 2 refine GX.q (.bool (decide (c46 = 0))) ?_
   iterate 2 refine GX.m rfl ?_
   refine GX.done ?_
   refine WK.ret ?_
   obtain rfl := Option.some.inj hR
   exact RetQ.fr [] (.inr rfl) rfl rfl rfl rfl
 ·rw [hb14]; try simp only [hb14, bb] at hL_13
  refine WK.condT rfl ?_
  refine WK.skip ?_
  refine WK.blockK (fun _ hK17 => ?_)
  refine WK.sr mixed ?_
  iterate 2 refine GX.m rfl ?_
  refine GX.q (.int .i64 (IntKind.i64.wrap (i9 + j10))) ?_
  refine GX.q (.int .u64 (IntKind.u64.wrap (IntKind.i64.wrap (i9 + j10)))) ?_
  refine GX.q (.int .u64 (Int.fdiv (IntKind.u64.wrap (IntKind.i64.wrap (i9 + j10))) (2 ^ 1))) ?_
  refine GX.q (.int .i64 (IntKind.i64.wrap (Int.fdiv (IntKind.u64.wrap (IntKind.i64.wrap (i9 + j10))) (2 ^ 1)))) ?_
  refine GX.m rfl ?_
  refine GX.done ?_
  refine WK.sr mixed ?_
  iterate 3 refine GX.m rfl ?_
  generalize hx917 : getI x0 (IntKind.i64.wrap (Int.fdiv (IntKind.u64.wrap (IntKind.i64.wrap (i9 + j10))) (2 ^ 1))) = x917 at hL_13
  rcases x917 with _ | x917
  ·try dsimp only at hL_13
   subst hL_13
   try dsimp only at hR
   cases hR
  try dsimp only at hL_13
  obtain ⟨hx9170, hx917j, hx917l, hx917⟩ := getI_some hx917
  refine GX.idxT (c := TRule.c) (x := x917) rfl rfl rfl hx9170 hx917 ?_
  refine GX.q (.agg (TRule.c x917)) ?_
  refine GX.m rfl ?_
  generalize hc30 : hcmp2 x917 target1 = c30 at hL_13
  try dsimp only at hL_13
  refine GX.callvp (r := .int .i64 c30) rfl rfl rfl (gcmp2o x917 target1 _ hc30) (closed3 gcmp2k.1 rfl gcmp2k.2) rfl ?_
  refine GX.q (.bool (decide (c30 < 0))) ?_
  refine GX.done ?_
  rcases bool_two (decide (c30 < 0)) with hb19 | hb19
  ·rw [hb19]; try simp only [hb19, bb] at hL_13
   refine WK.condF rfl ?_
   refine WK.regx mixed ?_
   iterate 2 refine GX.m rfl ?_
   refine GX.done ?_
   refine WK.nil (QF.normal (hK17 _ ?_))
   refine WK.nil (QF.normal ?_)
   exact hagain_13 _ f13 ⟨[(0, .ro 6 (x0.map TRule.c)), (1, .int .i64 target1), (2, .fn gcmp2 gcmp2f gcmp2c), (8, .int .i64 (x0.length : Int)), (9, .int .i64 i9), (10, .int .i64 (IntKind.i64.wrap (Int.fdiv (IntKind.u64.wrap (IntKind.i64.wrap (i9 + j10))) (2 ^ 1))))], [], 0⟩ (Nat.lt_succ_self _) (Conv.keep [] [] [0, 1, 2, 8, 9, 10] rfl rfl (viewE_cons rfl rfl (viewE_cons rfl rfl (viewE_cons rfl (viewP_fnc gcmp2k) (viewE_cons rfl rfl (viewE_cons rfl rfl (viewE_cons rfl rfl viewE_nil)))))) rfl rfl) ⟨i9, (IntKind.i64.wrap (Int.fdiv (IntKind.u64.wrap (IntKind.i64.wrap (i9 + j10))) (2 ^ 1))), hL_13, rfl⟩
  ·rw [hb19]; try simp only [hb19, bb] at hL_13
   refine WK.condT rfl ?_
   refine WK.regx mixed ?_
   refine GX.m rfl ?_
   refine GX.q (.int .i64 (IntKind.i64.wrap ((IntKind.i64.wrap (Int.fdiv (IntKind.u64.wrap (IntKind.i64.wrap (i9 + j10))) (2 ^ 1))) + 1))) ?_
   refine GX.m rfl ?_
   refine GX.done ?_
   refine WK.nil (QF.normal (hK17 _ ?_))
   refine WK.nil (QF.normal ?_)
   exact hagain_13 _ f13 ⟨[(0, .ro 6 (x0.map TRule.c)), (1, .int .i64 target1), (2, .fn gcmp2 gcmp2f gcmp2c), (8, .int .i64 (x0.length : Int)), (9, .int .i64 (IntKind.i64.wrap ((IntKind.i64.wrap (Int.fdiv (IntKind.u64.wrap (IntKind.i64.wrap (i9 + j10))) (2 ^ 1))) + 1))), (10, .int .i64 j10)], [], 0⟩ (Nat.lt_succ_self _) (Conv.keep [] [] [0, 1, 2, 8, 9, 10] rfl rfl (viewE_cons rfl rfl (viewE_cons rfl rfl (viewE_cons rfl (viewP_fnc gcmp2k) (viewE_cons rfl rfl (viewE_cons rfl rfl (viewE_cons rfl rfl viewE_nil)))))) rfl rfl) ⟨(IntKind.i64.wrap ((IntKind.i64.wrap (Int.fdiv (IntKind.u64.wrap (IntKind.i64.wrap (i9 + j10))) (2 ^ 1))) + 1)), j10, hL_13, rfl⟩

theorem f75_ok (x0 : TRule) (seq1 : Int) (R : Int) (hR : F75_plist_find_1 x0 seq1 = R) : FnOk Tryz.prog 75 [.agg (TRule.c x0), .int .i64 seq1] [] 0 (.int .i64 R) [] 0 := by
 refine FnOk.wk i75 rfl rfl ?_
 unfold F75_plist_find_1 at hR
 change WK _ _ _ [ac75] _ ⟨[(0, .agg (TRule.c x0)), (1, .int .i64 seq1)], [], 0⟩
 unfold ac75
 refine WK.sr mixed ?_
 refine GX.step (v' := .ptr 0 0) (heap' := [(0, .box (TRule.c x0))]) (next' := 1) rfl rfl rfl rfl rfl rfl rfl ?_
 refine GX.m rfl ?_
 refine GX.done ?_
 refine WK.sr mixed ?_
 refine GX.q (.ptr 0 0) ?_
 refine GX.q (.int .i64 x0.Seq) ?_
 refine GX.m rfl ?_
 refine GX.q (.int .i64 (IntKind.i64.wrap (x0.Seq - seq1))) ?_
 refine GX.m rfl ?_
 refine GX.done ?_
 refine WK.ret ?_
 subst hR
 exact RetQ.fr [] (.inr rfl) rfl rfl rfl rfl

theorem f56_ok (l0 : List TRule) (seq1 : Int) (R : Int × Bool) (hR : F56_plist_find l0 seq1 = some R) : FnOk Tryz.prog 56 [.ro 6 (l0.map TRule.c), .int .i64 seq1] [] 0 (.tup [.int .i64 R.1, .bool R.2]) [] 0 := by
 refine FnOk.wk i56 rfl rfl ?_
 unfold F56_plist_find at hR
 try dsimp only at hR
 change WK _ _ _ [ac56] _ ⟨[(0, .ro 6 (l0.map TRule.c)), (1, .int .i64 seq1)], [], 0⟩
 unfold ac56
 refine WK.sr mixed ?_
 iterate 2 refine GX.m rfl ?_
 refine GX.done ?_
 refine WK.sr mixed ?_
 iterate 2 refine GX.m rfl ?_
 generalize hc8 : F74_slices_BinarySearchFunc l0 seq1 (fun y0 y1 => F75_plist_find_1 y0 y1) = c8 at hR
 rcases c8 with _ | c8
 ·try dsimp only at hR
  cases hR
 try dsimp only at hR
 obtain ⟨c8a, c8b⟩ := c8; try dsimp only at hR
 refine GX.callp (r := .tup [.int .i64 c8a, .bool c8b]) rfl rfl rfl (f74_ok l0 seq1 75 [] [] (fun y0 y1 => F75_plist_find_1 y0 y1) ⟨rfl, rfl⟩ (fun y0 y1 _ hr => f75_ok y0 y1 _ hr) _ hc8) rfl rfl ?_
 refine GX.q (.int .i64 c8a) ?_
 refine GX.q (.bool c8b) ?_
 iterate 2 refine GX.m rfl ?_
 refine GX.done ?_
 refine WK.ret ?_
 obtain rfl := Option.some.inj hR
 exact RetQ.fr [] (.inr rfl) rfl rfl rfl rfl

theorem f23_ok (l0 : List TRule) (x1 : TRule) (R : (List TRule) × Int) (hR : F23_plist_Add l0 x1 = some R) : FnOk Tryz.prog 23 [.ro 6 (l0.map TRule.c), .agg (TRule.c x1)] [] 0 (.tup [.ro 6 (R.1.map TRule.c), .int .i64 R.2]) [] 0 := by
 refine FnOk.wk i23 rfl rfl ?_
 unfold F23_plist_Add at hR
 try dsimp only at hR
 change WK _ _ _ [ac23] _ ⟨[(0, .ro 6 (l0.map TRule.c)), (1, .agg (TRule.c x1))], [], 0⟩
 unfold ac23
 refine WK.sr mixed ?_
 refine GX.step (v' := .ptr 0 0) (heap' := [(0, .box (TRule.c x1))]) (next' := 1) rfl rfl rfl rfl rfl rfl rfl ?_
 iterate 2 refine GX.m rfl ?_
 refine GX.done ?_
 refine WK.seq ?_
 refine WK.sr mixed ?_
 refine GX.q (.agg (TRule.c x1)) ?_
 generalize hc9 : F10_plist_May x1 = c9 at hR
 try dsimp only at hR
 refine GX.callp (r := .bool c9) rfl rfl rfl (f10_ok x1 _ hc9) rfl rfl ?_
 refine GX.q (.bool (!c9)) ?_
 refine GX.done ?_
 rcases bool_two (c9) with hb1 | hb1
 ·rw [hb1]; first | replace hR := cond_f hb1 hR | (try simp only [hb1, bb] at hR)
  refine WK.condT rfl ?_
  refine WK.sr mixed ?_
  iterate 2 refine GX.m rfl ?_
  refine GX.done ?_
  refine WK.ret ?_
  obtain rfl := Option.some.inj hR
  exact RetQ.frw [] (.inr rfl) rfl rfl rfl (.tup (.cons .nil .refl))
 ·rw [hb1]; first | replace hR := cond_t hb1 hR | (try simp only [hb1, bb] at hR)
  refine WK.condF rfl ?_
  refine WK.skip ?_
  refine WK.sr mixed ?_
  refine GX.m rfl ?_
  refine GX.q (.ptr 0 0) ?_
  refine GX.q (.int .i64 x1.Seq) ?_
  generalize hc15 : F56_plist_find l0 x1.Seq = c15 at hR
  rcases c15 with _ | c15
  ·try dsimp only at hR
   cases hR
  try dsimp only at hR
  obtain ⟨c15a, c15b⟩ := c15; try dsimp only at hR
  refine GX.callp (r := .tup [.int .i64 c15a, .bool c15b]) rfl rfl rfl (f56_ok l0 x1.Seq _ hc15) rfl rfl ?_
  refine GX.m rfl ?_
  refine GX.q (.int .i64 c15a) ?_
  refine GX.q (.bool c15b) ?_
  iterate 2 refine GX.m rfl ?_
  refine GX.done ?_
  refine WK.seq ?_
  refine WK.blockK (fun _ hK2 => ?_)
  refine WK.sr mixed ?_
  iterate 2 refine GX.m rfl ?_
  refine GX.done ?_
  rcases bool_two (c15b) with hb3 | hb3
  ·rw [hb3]; first | replace hR := cond_f hb3 hR | (try simp only [hb3, bb] at hR)
   refine WK.condF rfl ?_
   refine WK.sr mixed ?_
   refine GX.m rfl ?_
   refine GX.pure (v' := .int .i64 (l0.length : Int)) rfl rfl rfl rfl (len_map _ _) ?_
   refine GX.q (.bool (decide (200 ≤ (l0.length : Int)))) ?_
   refine GX.m rfl ?_
   refine GX.done ?_
   rcases bool_two (decide (200 ≤ (l0.length : Int))) with hb4 | hb4
   ·rw [hb4]; first | replace hR := cond_f hb4 hR | (try simp only [hb4, bb] at hR)
    refine WK.condF rfl ?_
    refine WK.skip ?_
    refine WK.nil (QF.normal (hK2 _ ?_))
    refine WK.seq ?_
    refine WK.drawn mixed ?_
    refine RD.m rfl ?_
    rcases bool_two (decide (l0.length < 1099511627776)) with hg5 | hg5
    ·simp only [hg5, bb] at hR
     try dsimp only at hR
     cases hR
    simp only [hg5, bb] at hR
    have hg5_ := of_decide_eq_true hg5
    refine RD.callx (r' := .own 1 6 0 l0.length) (heap' := [(0, .box (TRule.c x1)), (1, .row 6 26 (l0.map TRule.c))]) (next' := 2) [] [] rfl rfl rfl rfl rfl rfl (clone_okT (c := TRule.c) mixed i54 l0 (by decide) (by omega) (by omega)) (.inl rfl) rfl rfl rfl ?_
    refine RD.m rfl ?_
    refine RD.q (.agg (TRule.c x1)) ?_
    refine RD.step (v' := .own 2 6 0 (([x1] : List TRule)).length) (heap' := [(0, .box (TRule.c x1)), (1, .row 6 26 (l0.map TRule.c)), (2, .row 6 26 (([x1] : List TRule).map TRule.c))]) (next' := 3) rfl rfl rfl rfl rfl rfl rfl ?_
    rcases bool_two (decide ((0 : Int) ≤ c15a)) with hg6 | hg6
    ·simp only [hg6, bb] at hR
     try dsimp only at hR
     cases hR
    simp only [hg6, bb] at hR
    have hg6_ := of_decide_eq_true hg6
    rcases bool_two (decide (c15a ≤ (l0.length : Int))) with hg7 | hg7
    ·simp only [hg7, bb] at hR
     try dsimp only at hR
     cases hR
    simp only [hg7, bb] at hR
    have hg7_ := of_decide_eq_true hg7
    refine RD.callx (r' := .own 3 6 0 (ins_ l0 c15a ([x1] : List TRule)).length) (heap' := [(0, .box (TRule.c x1)), (3, .row 6 26 ((ins_ l0 c15a ([x1] : List TRule)).map TRule.c))]) (next' := 4) [1, 2] [] rfl rfl rfl rfl rfl rfl (insert_okT (c := TRule.c) (fun _ => rfl) mixed i57 ov57 l0 ([x1] : List TRule) c15a rfl rfl (by omega) (by omega) (by (simp; done)) (by ((try simp only [List.length_append, List.length_cons, List.length_nil, List.length_map, decide_eq_true_eq, decide_eq_false_iff_not] at *) <;> omega)) (by ((try simp only [List.length_append, List.length_cons, List.length_nil, List.length_map, decide_eq_true_eq, decide_eq_false_iff_not] at *) <;> omega))) (.inl rfl) rfl rfl rfl ?_
    iterate 2 refine RD.m rfl ?_
    refine RD.done rfl ?_
    refine WK.ret ?_
    obtain rfl := Option.some.inj hR
    exact RetQ.fr [3] (.inr rfl) rfl rfl (viewGo_cons (view_rowT rfl rfl) (viewGo_cons rfl viewGo_nil)) rfl
   ·rw [hb4]; first | replace hR := cond_t hb4 hR | (try simp only [hb4, bb] at hR)
    refine WK.condT rfl ?_
    refine WK.sr mixed ?_
    iterate 2 refine GX.m rfl ?_
    refine GX.done ?_
    refine WK.ret ?_
    refine QF.ret ?_
    obtain rfl := Option.some.inj hR
    exact RetQ.frw [] (.inr rfl) rfl rfl rfl (.tup (.cons .nil .refl))
  ·rw [hb3]; first | replace hR := cond_t hb3 hR | (try simp only [hb3, bb] at hR)
   refine WK.condT rfl ?_
   refine WK.sr mixed ?_
   iterate 2 refine GX.m rfl ?_
   refine GX.done ?_
   refine WK.ret ?_
   refine QF.ret ?_
   obtain rfl := Option.some.inj hR
   exact RetQ.frw [] (.inr rfl) rfl rfl rfl (.tup (.cons .nil .refl))

theorem f24_ok (a0 : List TRule) (b1 : List TRule) (R : Bool) (hR : F24_crossroadsref07_Same a0 b1 = R) : FnOk Tryz.prog 24 [.ro 6 (a0.map TRule.c), .ro 6 (b1.map TRule.c)] [] 0 (.bool R) [] 0 := by
 refine FnOk.wk i24 rfl rfl ?_
 unfold F24_crossroadsref07_Same at hR
 change WK _ _ _ [ac24] _ ⟨[(0, .ro 6 (a0.map TRule.c)), (1, .ro 6 (b1.map TRule.c))], [], 0⟩
 unfold ac24
 refine WK.sr mixed ?_
 refine GX.m rfl ?_
 refine GX.done ?_
 refine WK.seq ?_
 refine WK.sr mixed ?_
 refine GX.m rfl ?_
 refine GX.pure (v' := .int .i64 (a0.length : Int)) rfl rfl rfl rfl (len_map _ _) ?_
 refine GX.m rfl ?_
 refine GX.pure (v' := .int .i64 (b1.length : Int)) rfl rfl rfl rfl (len_map _ _) ?_
 refine GX.q (.bool (!decide ((a0.length : Int) = (b1.length : Int)))) ?_
 refine GX.done ?_
 rcases bool_two (decide ((a0.length : Int) = (b1.length : Int))) with hb1 | hb1
 ·rw [hb1]; try simp only [hb1, bb] at hR
  refine WK.condT rfl ?_
  refine WK.sr mixed ?_
  refine GX.m rfl ?_
  refine GX.done ?_
  refine WK.ret ?_
  subst hR
  exact RetQ.fr [] (.inr rfl) rfl rfl rfl rfl
 ·rw [hb1]; try simp only [hb1, bb] at hR
  refine WK.condF rfl ?_
  refine WK.skip ?_
  refine WK.seq ?_
  refine WK.sr mixed ?_
  refine GX.m rfl ?_
  refine GX.done ?_
  refine WK.len (t := 0) rfl (by simp) (fun hlen_2 => ?_)
  rw [List.length_map] at hlen_2
  generalize hZ_2 : F24_crossroadsref07_Same_l1 b1 0 a0 = Z_2 at hR
  refine WK.forK (fun k s => ∃ (i5 : Nat), i5 ≤ a0.length ∧ k = a0.length - i5 ∧ F24_crossroadsref07_Same_l1 b1 i5 (a0.drop i5) = Z_2 ∧ s = ⟨[(0, .ro 6 (a0.map TRule.c)), (1, .ro 6 (b1.map TRule.c)), (5, .int .i64 (i5 : Int))], [], 0⟩) a0.length ⟨⟨[(0, .ro 6 (a0.map TRule.c)), (1, .ro 6 (b1.map TRule.c)), (5, .int .i64 (0 : Int))], [], 0⟩, Conv.keep [] [] [0, 1, 5] rfl rfl (viewE_cons rfl rfl (viewE_cons rfl rfl (viewE_cons rfl rfl viewE_nil))) rfl rfl, 0, (by omega), rfl, hZ_2, rfl⟩ ?_
  rintro _ _ ⟨i5, hi_2, rfl, hL_2, rfl⟩ again_2 out_2 Q_2 hagain_2 hout_2 hQ_2
  refine WK.seq ?_
  refine WK.sr mixed ?_
  iterate 2 refine GX.m rfl ?_
  refine GX.pure (v' := .int .i64 (a0.length : Int)) rfl rfl rfl rfl (len_map _ _) ?_
  refine GX.q (.bool (decide ((i5 : Int) < (a0.length : Int)))) ?_
  refine GX.done ?_
  rcases bool_two (decide ((i5 : Int) < (a0.length : Int))) with hb3 | hb3
  ·rw [hb3]
   rw [drop_end hb3, F24_crossroadsref07_Same_l1] at hL_2
   refine WK.condF rfl ?_
   refine WK.exit ?_
   refine QF.exit (hout_2 _ ?_)
   subst hL_2
   try dsimp only [cond_true, cond_false] at hR
   refine WK.sr mixed ?_
   refine GX.m rfl ?_
   refine GX.done ?_
   refine WK.ret ?_
   subst hR
   exact RetQ.fr [] (.inr rfl) rfl rfl rfl rfl
  ·rw [hb3]
   obtain ⟨x5, hx2, hd2, hlt2⟩ := drop_more hb3
   rw [hd2, F24_crossroadsref07_Same_l1] at hL_2
   refine WK.condT rfl ?_
   refine WK.skip ?_
   refine WK.seq ?_
   refine WK.blockK (fun _ hK4 => ?_)
   refine WK.seq ?_
   refine WK.drawn mixed ?_
   iterate 2 refine RD.m rfl ?_
   refine RD.idxT (c := TRule.c) (x := x5) rfl rfl rfl (Int.natCast_nonneg _) hx2 ?_
   refine RD.q (.agg (TRule.c x5)) ?_
   iterate 2 refine RD.m rfl ?_
   refine RD.idxT (c := TRule.c) (x := (b1.getD i5 default)) rfl rfl rfl (Int.natCast_nonneg _) (getD_at (by ((try simp only [decide_eq_true_eq, decide_eq_false_iff_not, Bool.not_eq_true, Bool.not_eq_false] at *); first | omega | (rw [wrap64_of (by omega) (by omega)]; omega) | (unfold min_ max_; (repeat' split) <;> first | omega | (rw [wrap64_of (by omega) (by omega)]; omega))))) ?_
   refine RD.q (.agg [.int .i64 ((b1.getD i5 default).Seq), .bool ((b1.getD i5 default).Permit), .int .u32 (((b1.getD i5 default).P).A), .int .i64 (((b1.getD i5 default).P).N), .int .i64 ((b1.getD i5 default).Ge), .int .i64 ((b1.getD i5 default).Le)]) ?_
   refine RD.q (.bool (!(decide (x5.Seq = (b1.getD i5 default).Seq) && ((x5.Permit == ((b1.getD i5 default).Permit)) && (decide (x5.P.A = ((b1.getD i5 default).P).A) && (decide (x5.P.N = ((b1.getD i5 default).P).N) && (decide (x5.Ge = (b1.getD i5 default).Ge) && (decide (x5.Le = (b1.getD i5 default).Le) && true)))))))) ?_
   refine RD.done rfl ?_
   rcases bool_two (decide (x5.Seq = (b1.getD i5 default).Seq) && ((x5.Permit == ((b1.getD i5 default).Permit)) && (decide (x5.P.A = ((b1.getD i5 default).P).A) && (decide (x5.P.N = ((b1.getD i5 default).P).N) && (decide (x5.Ge = (b1.getD i5 default).Ge) && (decide (x5.Le = (b1.getD i5 default).Le) && true)))))) with hb5 | hb5
   ·rw [hb5]; try simp only [hb5, bb] at hL_2
    refine WK.condT rfl ?_
    refine WK.sr mixed ?_
    refine GX.m rfl ?_
    refine GX.done ?_
    refine WK.ret ?_
    refine QF.ret ?_
    refine QF.ret (hQ_2 _ _ ?_)
    subst hL_2
    subst hR
    exact RetQ.fr [] (.inr rfl) rfl rfl rfl rfl
   ·rw [hb5]; try simp only [hb5, bb] at hL_2
    refine WK.condF rfl ?_
    refine WK.skip ?_
    refine WK.nil (QF.normal (hK4 _ ?_))
    refine WK.regx mixed ?_
    refine GX.m rfl ?_
    refine GX.pure (v' := .int .i64 ((i5 + 1 : Nat) : Int)) rfl rfl rfl rfl (congrArg (PVal.int .i64) (wrap_up hlt2 hlen_2)) ?_
    refine GX.m rfl ?_
    refine GX.done ?_
    refine WK.nil (QF.normal ?_)
    exact hagain_2 _ (a0.length - (i5 + 1)) ⟨[(0, .ro 6 (a0.map TRule.c)), (1, .ro 6 (b1.map TRule.c)), (5, .int .i64 ((i5 + 1) : Int))], [], 0⟩ (by omega) (Conv.keep [] [] [0, 1, 5] rfl rfl (viewE_cons rfl rfl (viewE_cons rfl rfl (viewE_cons rfl rfl viewE_nil))) rfl rfl) ⟨i5 + 1, (by omega), rfl, hL_2, rfl⟩

end Go.Proofs.YtjcpkgnlnmajjaaGreatDoor.Abs
