/- The functions walked: each computes its Lean function (printed by this work's own program gen.py). -/
import Derived.Test.YtjcpkgnlnmajjaaGreatDoorSb
set_option linter.unusedVariables false
set_option linter.unusedSimpArgs false
set_option maxRecDepth 10000
set_option maxHeartbeats 4000000
namespace Go.Proofs.YtjcpkgnlnmajjaaGreatDoor.Abs
open Go

theorem f67_ok (n0 : Int) (R : Bool) (hR : F67_addr_isLong n0 = R) : FnOk Tryz.prog 67 [.int .i64 n0] [] 0 (.bool R) [] 0 := by
 refine FnOk.wk i67 rfl rfl ?_
 unfold F67_addr_isLong at hR
 change WK _ _ _ [ac67] _ ⟨[(0, .int .i64 n0)], [], 0⟩
 unfold ac67
 refine WK.sr mixed ?_
 refine GX.m rfl ?_
 refine GX.done ?_
 refine WK.sr mixed ?_
 refine GX.m rfl ?_
 refine GX.q (.bool (decide (0 ≤ n0))) ?_
 refine GX.m rfl ?_
 rcases bool_two (decide (0 ≤ n0)) with hb1 | hb1
 ·rw [hb1]; try simp only [hb1, bb] at hR
  iterate 2 refine GX.skip rfl rfl ?_
  refine GX.q (.bool false) ?_
  refine GX.m rfl ?_
  refine GX.done ?_
  refine WK.ret ?_
  subst hR
  exact RetQ.fr [] (.inr rfl) rfl rfl rfl rfl
 ·rw [hb1]; try simp only [hb1, bb] at hR
  refine GX.m rfl ?_
  iterate 2 refine GX.q (.bool (decide (n0 ≤ 32))) ?_
  refine GX.m rfl ?_
  refine GX.done ?_
  refine WK.ret ?_
  subst hR
  exact RetQ.fr [] (.inr rfl) rfl rfl rfl rfl

theorem f68_ok (n0 : Int) (R : Int) (hR : F68_addr_Mask n0 = R) : FnOk Tryz.prog 68 [.int .i64 n0] [] 0 (.int .u32 R) [] 0 := by
 refine FnOk.wk i68 rfl rfl ?_
 unfold F68_addr_Mask at hR
 change WK _ _ _ [ac68] _ ⟨[(0, .int .i64 n0)], [], 0⟩
 unfold ac68
 refine WK.sr mixed ?_
 refine GX.m rfl ?_
 refine GX.done ?_
 refine WK.sr mixed ?_
 refine GX.m rfl ?_
 refine GX.q (.int .i64 (max_ n0 0)) ?_
 refine GX.q (.int .i64 (min_ (max_ n0 0) 32)) ?_
 refine GX.m rfl ?_
 refine GX.done ?_
 refine WK.sr mixed ?_
 refine GX.m rfl ?_
 refine GX.q (.int .i64 (IntKind.i64.wrap (32 - (min_ (max_ n0 0) 32)))) ?_
 refine GX.shl rfl rfl rfl (by ((try simp only [decide_eq_true_eq, decide_eq_false_iff_not, Bool.not_eq_true, Bool.not_eq_false] at *); first | omega | (rw [wrap64_of (by omega) (by omega)]; omega) | (unfold min_ max_; (repeat' split) <;> first | omega | (rw [wrap64_of (by omega) (by omega)]; omega)))) ?_
 refine GX.q (.int .u32 (IntKind.u32.wrap (shl_ .u64 4294967295 (IntKind.i64.wrap (32 - (min_ (max_ n0 0) 32)))))) ?_
 refine GX.m rfl ?_
 refine GX.done ?_
 refine WK.ret ?_
 subst hR
 exact RetQ.fr [] (.inr rfl) rfl rfl rfl rfl

theorem f37_ok (p0 : TPrefix) (R : Bool) (hR : F37_addr_May p0 = R) : FnOk Tryz.prog 37 [.agg (TPrefix.c p0)] [] 0 (.bool R) [] 0 := by
 refine FnOk.wk i37 rfl rfl ?_
 unfold F37_addr_May at hR
 change WK _ _ _ [ac37] _ ⟨[(0, .agg (TPrefix.c p0))], [], 0⟩
 unfold ac37
 refine WK.sr mixed ?_
 refine GX.step (v' := .ptr 0 0) (heap' := [(0, .box (TPrefix.c p0))]) (next' := 1) rfl rfl rfl rfl rfl rfl rfl ?_
 refine GX.m rfl ?_
 refine GX.done ?_
 refine WK.seq ?_
 refine WK.drawn mixed ?_
 refine RD.q (.ptr 0 1) ?_
 refine RD.q (.int .i64 p0.N) ?_
 generalize hc5 : F67_addr_isLong p0.N = c5 at hR
 try dsimp only at hR
 refine RD.callp (r := .bool c5) rfl rfl rfl (f67_ok p0.N _ hc5) rfl rfl ?_
 refine RD.m rfl ?_
 rcases bool_two (c5) with hb1 | hb1
 ·rw [hb1]; try simp only [hb1, bb] at hR
  iterate 7 refine RD.skip rfl rfl ?_
  refine RD.q (.bool false) ?_
  refine RD.m rfl ?_
  refine RD.done rfl ?_
  refine WK.ret ?_
  subst hR
  exact RetQ.fr [] (.inr rfl) rfl rfl rfl rfl
 ·rw [hb1]; try simp only [hb1, bb] at hR
  refine RD.q (.ptr 0 0) ?_
  refine RD.q (.int .u32 p0.A) ?_
  refine RD.q (.ptr 0 1) ?_
  refine RD.q (.int .i64 p0.N) ?_
  generalize hc11 : F68_addr_Mask p0.N = c11 at hR
  try dsimp only at hR
  refine RD.callp (r := .int .u32 c11) rfl rfl rfl (f68_ok p0.N _ hc11) rfl rfl ?_
  refine RD.q (.int .u32 (bit_andNot .u32 p0.A c11)) ?_
  iterate 2 refine RD.q (.bool (decide (bit_andNot .u32 p0.A c11 = 0))) ?_
  refine RD.m rfl ?_
  refine RD.done rfl ?_
  refine WK.ret ?_
  subst hR
  exact RetQ.fr [] (.inr rfl) rfl rfl rfl rfl

theorem f10_ok (x0 : TRule) (R : Bool) (hR : F10_plist_May x0 = R) : FnOk Tryz.prog 10 [.agg (TRule.c x0)] [] 0 (.bool R) [] 0 := by
 refine FnOk.wk i10 rfl rfl ?_
 unfold F10_plist_May at hR
 change WK _ _ _ [ac10] _ ⟨[(0, .agg (TRule.c x0))], [], 0⟩
 unfold ac10
 refine WK.sr mixed ?_
 refine GX.step (v' := .ptr 0 0) (heap' := [(0, .box (TRule.c x0))]) (next' := 1) rfl rfl rfl rfl rfl rfl rfl ?_
 refine GX.m rfl ?_
 refine GX.done ?_
 refine WK.seq ?_
 refine WK.sr mixed ?_
 refine GX.q (.ptr 0 0) ?_
 refine GX.q (.int .i64 x0.Seq) ?_
 refine GX.q (.bool (decide (x0.Seq < 1))) ?_
 refine GX.m rfl ?_
 rcases bool_two (decide (x0.Seq < 1)) with hb1 | hb1
 ·rw [hb1]; try simp only [hb1, bb] at hR
  refine GX.q (.ptr 0 0) ?_
  refine GX.q (.int .i64 x0.Seq) ?_
  iterate 2 refine GX.q (.bool (decide (65535 < x0.Seq))) ?_
  refine GX.m rfl ?_
  rcases bool_two (decide (65535 < x0.Seq)) with hb2 | hb2
  ·rw [hb2]; try simp only [hb2, bb] at hR
   refine GX.q (.ptr 0 2) ?_
   refine GX.q (.agg [.int .u32 x0.P.A, .int .i64 x0.P.N]) ?_
   generalize hc16 : F37_addr_May x0.P = c16 at hR
   try dsimp only at hR
   refine GX.callp (r := .bool c16) rfl rfl rfl (f37_ok x0.P _ hc16) rfl rfl ?_
   iterate 2 refine GX.q (.bool (!c16)) ?_
   refine GX.done ?_
   rcases bool_two (c16) with hb3 | hb3
   ·rw [hb3]; try simp only [hb3, bb] at hR
    refine WK.condT rfl ?_
    refine WK.sr mixed ?_
    refine GX.m rfl ?_
    refine GX.done ?_
    refine WK.ret ?_
    subst hR
    exact RetQ.fr [] (.inr rfl) rfl rfl rfl rfl
   ·rw [hb3]; try simp only [hb3, bb] at hR
    refine WK.condF rfl ?_
    refine WK.skip ?_
    refine WK.sr mixed ?_
    refine GX.q (.ptr 0 4) ?_
    refine GX.q (.int .i64 x0.Ge) ?_
    refine GX.q (.bool (decide (x0.Ge = 0))) ?_
    refine GX.m rfl ?_
    rcases bool_two (decide (x0.Ge = 0)) with hb4 | hb4
    ·rw [hb4]; try simp only [hb4, bb] at hR
     refine GX.q (.ptr 0 4) ?_
     refine GX.q (.int .i64 x0.Ge) ?_
     refine GX.q (.ptr 0 2) ?_
     refine GX.q (.ptr 0 3) ?_
     refine GX.q (.int .i64 x0.P.N) ?_
     refine GX.q (.bool (decide (x0.P.N < x0.Ge))) ?_
     refine GX.m rfl ?_
     rcases bool_two (decide (x0.P.N < x0.Ge)) with hb5 | hb5
     ·rw [hb5]; try simp only [hb5, bb] at hR
      iterate 3 refine GX.skip rfl rfl ?_
      iterate 2 refine GX.q (.bool false) ?_
      refine GX.m rfl ?_
      refine GX.done ?_
      refine WK.sr mixed ?_
      refine GX.q (.ptr 0 5) ?_
      refine GX.q (.int .i64 x0.Le) ?_
      refine GX.q (.bool (decide (x0.Le = 0))) ?_
      refine GX.m rfl ?_
      rcases bool_two (decide (x0.Le = 0)) with hb6 | hb6
      ·rw [hb6]; try simp only [hb6, bb] at hR
       refine GX.q (.ptr 0 5) ?_
       refine GX.q (.int .i64 x0.Le) ?_
       refine GX.q (.ptr 0 4) ?_
       refine GX.q (.int .i64 x0.Ge) ?_
       refine GX.q (.ptr 0 2) ?_
       refine GX.q (.ptr 0 3) ?_
       refine GX.q (.int .i64 x0.P.N) ?_
       refine GX.q (.int .i64 (max_ x0.Ge x0.P.N)) ?_
       refine GX.q (.bool (decide (max_ x0.Ge x0.P.N ≤ x0.Le))) ?_
       refine GX.m rfl ?_
       rcases bool_two (decide (max_ x0.Ge x0.P.N ≤ x0.Le)) with hb7 | hb7
       ·rw [hb7]; try simp only [hb7, bb] at hR
        iterate 3 refine GX.skip rfl rfl ?_
        iterate 2 refine GX.q (.bool false) ?_
        refine GX.m rfl ?_
        refine GX.done ?_
        refine WK.sr mixed ?_
        iterate 2 refine GX.m rfl ?_
        refine GX.skip rfl rfl ?_
        refine GX.q (.bool false) ?_
        refine GX.m rfl ?_
        refine GX.done ?_
        refine WK.ret ?_
        subst hR
        exact RetQ.fr [] (.inr rfl) rfl rfl rfl rfl
       ·rw [hb7]; try simp only [hb7, bb] at hR
        refine GX.q (.ptr 0 5) ?_
        refine GX.q (.int .i64 x0.Le) ?_
        iterate 3 refine GX.q (.bool (decide (x0.Le ≤ 32))) ?_
        refine GX.m rfl ?_
        refine GX.done ?_
        refine WK.sr mixed ?_
        iterate 2 refine GX.m rfl ?_
        refine GX.skip rfl rfl ?_
        refine GX.q (.bool false) ?_
        refine GX.m rfl ?_
        refine GX.done ?_
        refine WK.ret ?_
        subst hR
        exact RetQ.fr [] (.inr rfl) rfl rfl rfl rfl
      ·rw [hb6]; try simp only [hb6, bb] at hR
       iterate 14 refine GX.skip rfl rfl ?_
       refine GX.q (.bool true) ?_
       refine GX.m rfl ?_
       refine GX.done ?_
       refine WK.sr mixed ?_
       iterate 2 refine GX.m rfl ?_
       refine GX.skip rfl rfl ?_
       refine GX.q (.bool false) ?_
       refine GX.m rfl ?_
       refine GX.done ?_
       refine WK.ret ?_
       subst hR
       exact RetQ.fr [] (.inr rfl) rfl rfl rfl rfl
     ·rw [hb5]; try simp only [hb5, bb] at hR
      refine GX.q (.ptr 0 4) ?_
      refine GX.q (.int .i64 x0.Ge) ?_
      iterate 3 refine GX.q (.bool (decide (x0.Ge ≤ 32))) ?_
      refine GX.m rfl ?_
      refine GX.done ?_
      refine WK.sr mixed ?_
      refine GX.q (.ptr 0 5) ?_
      refine GX.q (.int .i64 x0.Le) ?_
      refine GX.q (.bool (decide (x0.Le = 0))) ?_
      refine GX.m rfl ?_
      rcases bool_two (decide (x0.Le = 0)) with hb8 | hb8
      ·rw [hb8]; try simp only [hb8, bb] at hR
       refine GX.q (.ptr 0 5) ?_
       refine GX.q (.int .i64 x0.Le) ?_
       refine GX.q (.ptr 0 4) ?_
       refine GX.q (.int .i64 x0.Ge) ?_
       refine GX.q (.ptr 0 2) ?_
       refine GX.q (.ptr 0 3) ?_
       refine GX.q (.int .i64 x0.P.N) ?_
       refine GX.q (.int .i64 (max_ x0.Ge x0.P.N)) ?_
       refine GX.q (.bool (decide (max_ x0.Ge x0.P.N ≤ x0.Le))) ?_
       refine GX.m rfl ?_
       rcases bool_two (decide (max_ x0.Ge x0.P.N ≤ x0.Le)) with hb9 | hb9
       ·rw [hb9]; try simp only [hb9, bb] at hR
        iterate 3 refine GX.skip rfl rfl ?_
        iterate 2 refine GX.q (.bool false) ?_
        refine GX.m rfl ?_
        refine GX.done ?_
        refine WK.sr mixed ?_
        iterate 2 refine GX.m rfl ?_
        rcases bool_two (decide (x0.Ge ≤ 32)) with hb10 | hb10
        ·rw [hb10]; try simp only [hb10, bb] at hR
         refine GX.skip rfl rfl ?_
         refine GX.q (.bool false) ?_
         refine GX.m rfl ?_
         refine GX.done ?_
         refine WK.ret ?_
         subst hR
         exact RetQ.fr [] (.inr rfl) rfl rfl rfl rfl
        ·rw [hb10]; try simp only [hb10, bb] at hR
         refine GX.m rfl ?_
         refine GX.q (.bool false) ?_
         refine GX.m rfl ?_
         refine GX.done ?_
         refine WK.ret ?_
         subst hR
         exact RetQ.fr [] (.inr rfl) rfl rfl rfl rfl
       ·rw [hb9]; try simp only [hb9, bb] at hR
        refine GX.q (.ptr 0 5) ?_
        refine GX.q (.int .i64 x0.Le) ?_
        iterate 3 refine GX.q (.bool (decide (x0.Le ≤ 32))) ?_
        refine GX.m rfl ?_
        refine GX.done ?_
        refine WK.sr mixed ?_
        iterate 2 refine GX.m rfl ?_
        rcases bool_two (decide (x0.Ge ≤ 32)) with hb11 | hb11
        ·rw [hb11]; try simp only [hb11, bb] at hR
         refine GX.skip rfl rfl ?_
         refine GX.q (.bool false) ?_
         refine GX.m rfl ?_
         refine GX.done ?_
         refine WK.ret ?_
         subst hR
         exact RetQ.fr [] (.inr rfl) rfl rfl rfl rfl
        ·rw [hb11]; try simp only [hb11, bb] at hR
         refine GX.m rfl ?_
         refine GX.q (.bool (decide (x0.Le ≤ 32))) ?_
         refine GX.m rfl ?_
         refine GX.done ?_
         refine WK.ret ?_
         subst hR
         exact RetQ.fr [] (.inr rfl) rfl rfl rfl rfl
      ·rw [hb8]; try simp only [hb8, bb] at hR
       iterate 14 refine GX.skip rfl rfl ?_
       refine GX.q (.bool true) ?_
       refine GX.m rfl ?_
       refine GX.done ?_
       refine WK.sr mixed ?_
       iterate 2 refine GX.m rfl ?_
       rcases bool_two (decide (x0.Ge ≤ 32)) with hb12 | hb12
       ·rw [hb12]; try simp only [hb12, bb] at hR
        refine GX.skip rfl rfl ?_
        refine GX.q (.bool false) ?_
        refine GX.m rfl ?_
        refine GX.done ?_
        refine WK.ret ?_
        subst hR
        exact RetQ.fr [] (.inr rfl) rfl rfl rfl rfl
       ·rw [hb12]; try simp only [hb12, bb] at hR
        refine GX.m rfl ?_
        refine GX.q (.bool true) ?_
        refine GX.m rfl ?_
        refine GX.done ?_
        refine WK.ret ?_
        subst hR
        exact RetQ.fr [] (.inr rfl) rfl rfl rfl rfl
    ·rw [hb4]; try simp only [hb4, bb] at hR
     iterate 11 refine GX.skip rfl rfl ?_
     refine GX.q (.bool true) ?_
     refine GX.m rfl ?_
     refine GX.done ?_
     refine WK.sr mixed ?_
     refine GX.q (.ptr 0 5) ?_
     refine GX.q (.int .i64 x0.Le) ?_
     refine GX.q (.bool (decide (x0.Le = 0))) ?_
     refine GX.m rfl ?_
     rcases bool_two (decide (x0.Le = 0)) with hb13 | hb13
     ·rw [hb13]; try simp only [hb13, bb] at hR
      refine GX.q (.ptr 0 5) ?_
      refine GX.q (.int .i64 x0.Le) ?_
      refine GX.q (.ptr 0 4) ?_
      refine GX.q (.int .i64 x0.Ge) ?_
      refine GX.q (.ptr 0 2) ?_
      refine GX.q (.ptr 0 3) ?_
      refine GX.q (.int .i64 x0.P.N) ?_
      refine GX.q (.int .i64 (max_ x0.Ge x0.P.N)) ?_
      refine GX.q (.bool (decide (max_ x0.Ge x0.P.N ≤ x0.Le))) ?_
      refine GX.m rfl ?_
      rcases bool_two (decide (max_ x0.Ge x0.P.N ≤ x0.Le)) with hb14 | hb14
      ·rw [hb14]; try simp only [hb14, bb] at hR
       iterate 3 refine GX.skip rfl rfl ?_
       iterate 2 refine GX.q (.bool false) ?_
       refine GX.m rfl ?_
       refine GX.done ?_
       refine WK.sr mixed ?_
       iterate 3 refine GX.m rfl ?_
       refine GX.q (.bool false) ?_
       refine GX.m rfl ?_
       refine GX.done ?_
       refine WK.ret ?_
       subst hR
       exact RetQ.fr [] (.inr rfl) rfl rfl rfl rfl
      ·rw [hb14]; try simp only [hb14, bb] at hR
       refine GX.q (.ptr 0 5) ?_
       refine GX.q (.int .i64 x0.Le) ?_
       iterate 3 refine GX.q (.bool (decide (x0.Le ≤ 32))) ?_
       refine GX.m rfl ?_
       refine GX.done ?_
       refine WK.sr mixed ?_
       iterate 3 refine GX.m rfl ?_
       refine GX.q (.bool (decide (x0.Le ≤ 32))) ?_
       refine GX.m rfl ?_
       refine GX.done ?_
       refine WK.ret ?_
       subst hR
       exact RetQ.fr [] (.inr rfl) rfl rfl rfl rfl
     ·rw [hb13]; try simp only [hb13, bb] at hR
      iterate 14 refine GX.skip rfl rfl ?_
      refine GX.q (.bool true) ?_
      refine GX.m rfl ?_
      refine GX.done ?_
      refine WK.sr mixed ?_
      iterate 3 refine GX.m rfl ?_
      refine GX.q (.bool true) ?_
      refine GX.m rfl ?_
      refine GX.done ?_
      refine WK.ret ?_
      subst hR
      exact RetQ.fr [] (.inr rfl) rfl rfl rfl rfl
  ·rw [hb2]; try simp only [hb2, bb] at hR
   iterate 4 refine GX.skip rfl rfl ?_
   refine GX.q (.bool true) ?_
   refine GX.done ?_
   refine WK.condT rfl ?_
   refine WK.sr mixed ?_
   refine GX.m rfl ?_
   refine GX.done ?_
   refine WK.ret ?_
   subst hR
   exact RetQ.fr [] (.inr rfl) rfl rfl rfl rfl
 ·rw [hb1]; try simp only [hb1, bb] at hR
  iterate 3 refine GX.skip rfl rfl ?_
  refine GX.q (.bool true) ?_
  refine GX.m rfl ?_
  iterate 4 refine GX.skip rfl rfl ?_
  refine GX.q (.bool true) ?_
  refine GX.done ?_
  refine WK.condT rfl ?_
  refine WK.sr mixed ?_
  refine GX.m rfl ?_
  refine GX.done ?_
  refine WK.ret ?_
  subst hR
  exact RetQ.fr [] (.inr rfl) rfl rfl rfl rfl

theorem f31_ok (s0 : ByteArray) (R : Int) (hR : F31_plist_number s0 = some R) : FnOk Tryz.prog 31 [.str s0] [] 0 (.int .i64 R) [] 0 := by
 refine FnOk.wk i31 rfl rfl ?_
 unfold F31_plist_number at hR
 try dsimp only at hR
 change WK _ _ _ [ac31] _ ⟨[(0, .str s0)], [], 0⟩
 unfold ac31
 refine WK.sr mixed ?_
 refine GX.m rfl ?_
 refine GX.done ?_
 refine WK.seq ?_
 refine WK.sr mixed ?_
 refine GX.m rfl ?_
 refine GX.q (.bool (s0.toList == (bstr []).toList)) ?_
 refine GX.m rfl ?_
 rcases bool_two ((s0.toList == (bstr []).toList)) with hb1 | hb1
 ·rw [hb1]; try simp only [hb1, bb] at hR
  refine GX.m rfl ?_
  refine GX.q (.int .i64 (s0.size : Int)) ?_
  iterate 2 refine GX.q (.bool (decide (5 < (s0.size : Int)))) ?_
  refine GX.m rfl ?_
  rcases bool_two (decide (5 < (s0.size : Int))) with hb2 | hb2
  ·rw [hb2]; first | replace hR := cond_f hb2 hR | (try simp only [hb2, bb] at hR)
   refine GX.m rfl ?_
   rcases bool_two (decide ((0 : Int) < (s0.size : Int))) with hg3 | hg3
   ·simp only [hg3, bb] at hR
    try dsimp only at hR
    cases hR
   simp only [hg3, bb] at hR
   have hg3_ := of_decide_eq_true hg3
   refine GX.pure (v' := .int .u8 (strAt s0 0)) rfl rfl rfl (core_idxSG (by omega) (by omega)) rfl ?_
   iterate 2 refine GX.q (.bool (decide ((strAt s0 0) = 48))) ?_
   refine GX.m rfl ?_
   rcases bool_two (decide ((strAt s0 0) = 48)) with hb4 | hb4
   ·rw [hb4]; first | replace hR := cond_f hb4 hR | (try simp only [hb4, bb] at hR)
    refine GX.m rfl ?_
    generalize hc19 : trimO s0 (bstr [48, 49, 50, 51, 52, 53, 54, 55, 56, 57]) = c19 at hR
    rcases c19 with _ | c19
    ·try dsimp only at hR
     cases hR
    try dsimp only at hR
    try dsimp only at hR
    refine GX.callp (r := .str c19) rfl rfl rfl (f59_ok s0 (bstr [48, 49, 50, 51, 52, 53, 54, 55, 56, 57]) _ hc19) rfl rfl ?_
    iterate 2 refine GX.q (.bool (!(c19.toList == (bstr []).toList))) ?_
    refine GX.done ?_
    rcases bool_two (c19.toList == (bstr []).toList) with hb5 | hb5
    ·rw [hb5]; first | replace hR := cond_f hb5 hR | (try simp only [hb5, bb] at hR)
     refine WK.condT rfl ?_
     refine WK.sr mixed ?_
     refine GX.m rfl ?_
     refine GX.done ?_
     refine WK.ret ?_
     obtain rfl := Option.some.inj hR
     exact RetQ.fr [] (.inr rfl) rfl rfl rfl rfl
    ·rw [hb5]; first | replace hR := cond_t hb5 hR | (try simp only [hb5, bb] at hR)
     refine WK.condF rfl ?_
     refine WK.skip ?_
     refine WK.sr mixed ?_
     refine GX.m rfl ?_
     generalize hc24 : atoiO s0 = c24 at hR
     rcases c24 with _ | c24
     ·try dsimp only at hR
      cases hR
     try dsimp only at hR
     obtain ⟨c24a, c24b⟩ := c24; try dsimp only at hR
     refine GX.callp (r := .tup [.int .i64 c24a, .nili]) rfl rfl rfl (f60_ok s0 _ hc24) rfl rfl ?_
     refine GX.m rfl ?_
     refine GX.q (.int .i64 c24a) ?_
     refine GX.q (.nili) ?_
     iterate 2 refine GX.m rfl ?_
     refine GX.done ?_
     refine WK.sr mixed ?_
     iterate 2 refine GX.m rfl ?_
     refine GX.done ?_
     refine WK.ret ?_
     obtain rfl := Option.some.inj hR
     exact RetQ.fr [] (.inr rfl) rfl rfl rfl rfl
   ·rw [hb4]; first | replace hR := cond_t hb4 hR | (try simp only [hb4, bb] at hR)
    iterate 3 refine GX.skip rfl rfl ?_
    refine GX.q (.bool true) ?_
    refine GX.done ?_
    refine WK.condT rfl ?_
    refine WK.sr mixed ?_
    refine GX.m rfl ?_
    refine GX.done ?_
    refine WK.ret ?_
    obtain rfl := Option.some.inj hR
    exact RetQ.fr [] (.inr rfl) rfl rfl rfl rfl
  ·rw [hb2]; first | replace hR := cond_t hb2 hR | (try simp only [hb2, bb] at hR)
   iterate 3 refine GX.skip rfl rfl ?_
   refine GX.q (.bool true) ?_
   refine GX.m rfl ?_
   iterate 3 refine GX.skip rfl rfl ?_
   refine GX.q (.bool true) ?_
   refine GX.done ?_
   refine WK.condT rfl ?_
   refine WK.sr mixed ?_
   refine GX.m rfl ?_
   refine GX.done ?_
   refine WK.ret ?_
   obtain rfl := Option.some.inj hR
   exact RetQ.fr [] (.inr rfl) rfl rfl rfl rfl
 ·rw [hb1]; try simp only [hb1, bb] at hR
  iterate 3 refine GX.skip rfl rfl ?_
  refine GX.q (.bool true) ?_
  refine GX.m rfl ?_
  iterate 3 refine GX.skip rfl rfl ?_
  refine GX.q (.bool true) ?_
  refine GX.m rfl ?_
  iterate 3 refine GX.skip rfl rfl ?_
  refine GX.q (.bool true) ?_
  refine GX.done ?_
  refine WK.condT rfl ?_
  refine WK.sr mixed ?_
  refine GX.m rfl ?_
  refine GX.done ?_
  refine WK.ret ?_
  obtain rfl := Option.some.inj hR
  exact RetQ.fr [] (.inr rfl) rfl rfl rfl rfl

theorem f91_ok (c0 : Int) (R : Bool) (hR : F91_addr_number_1 c0 = R) : FnOk Tryz.prog 91 [.int .i32 c0] [] 0 (.bool R) [] 0 := by
 refine FnOk.wk i91 rfl rfl ?_
 unfold F91_addr_number_1 at hR
 change WK _ _ _ [ac91] _ ⟨[(0, .int .i32 c0)], [], 0⟩
 unfold ac91
 refine WK.sr mixed ?_
 refine GX.m rfl ?_
 refine GX.done ?_
 refine WK.sr mixed ?_
 refine GX.m rfl ?_
 refine GX.q (.bool (decide (c0 < 48))) ?_
 refine GX.m rfl ?_
 rcases bool_two (decide (c0 < 48)) with hb1 | hb1
 ·rw [hb1]; try simp only [hb1, bb] at hR
  refine GX.m rfl ?_
  iterate 2 refine GX.q (.bool (decide (57 < c0))) ?_
  refine GX.m rfl ?_
  refine GX.done ?_
  refine WK.ret ?_
  subst hR
  exact RetQ.fr [] (.inr rfl) rfl rfl rfl rfl
 ·rw [hb1]; try simp only [hb1, bb] at hR
  iterate 2 refine GX.skip rfl rfl ?_
  refine GX.q (.bool true) ?_
  refine GX.m rfl ?_
  refine GX.done ?_
  refine WK.ret ?_
  subst hR
  exact RetQ.fr [] (.inr rfl) rfl rfl rfl rfl

theorem f62_ok (s0 : ByteArray) (most1 : Int) (R : Int × Bool) (hR : F62_addr_number s0 most1 = some R) : FnOk Tryz.prog 62 [.str s0, .int .i64 most1] [] 0 (.tup [.int .i64 R.1, .bool R.2]) [] 0 := by
 refine FnOk.wk i62 rfl rfl ?_
 unfold F62_addr_number at hR
 try dsimp only at hR
 change WK _ _ _ [ac62] _ ⟨[(0, .str s0), (1, .int .i64 most1)], [], 0⟩
 unfold ac62
 refine WK.sr mixed ?_
 iterate 2 refine GX.m rfl ?_
 refine GX.done ?_
 refine WK.sr mixed ?_
 refine GX.m rfl ?_
 refine GX.done ?_
 refine WK.seq ?_
 refine WK.sr mixed ?_
 refine GX.m rfl ?_
 refine GX.q (.bool (s0.toList == (bstr []).toList)) ?_
 refine GX.m rfl ?_
 rcases bool_two ((s0.toList == (bstr []).toList)) with hb1 | hb1
 ·rw [hb1]; try simp only [hb1, bb] at hR
  refine GX.m rfl ?_
  refine GX.q (.int .i64 (s0.size : Int)) ?_
  iterate 2 refine GX.q (.bool (decide (3 < (s0.size : Int)))) ?_
  refine GX.m rfl ?_
  rcases bool_two (decide (3 < (s0.size : Int))) with hb2 | hb2
  ·rw [hb2]; first | replace hR := cond_f hb2 hR | (try simp only [hb2, bb] at hR)
   refine GX.m rfl ?_
   refine GX.q (.int .i64 (s0.size : Int)) ?_
   refine GX.q (.bool (decide (1 < (s0.size : Int)))) ?_
   refine GX.m rfl ?_
   rcases bool_two (decide (1 < (s0.size : Int))) with hb3 | hb3
   ·rw [hb3]; first | replace hR := cond_f hb3 hR | (try simp only [hb3, bb] at hR)
    iterate 3 refine GX.skip rfl rfl ?_
    iterate 2 refine GX.q (.bool false) ?_
    iterate 3 refine GX.m rfl ?_
    generalize hc29 : containsFuncS s0 (fun y0 => F91_addr_number_1 y0) = c29 at hR
    try dsimp only at hR
    refine GX.callp (r := .bool c29) rfl rfl rfl (f92_ok s0 91 [] [] (fun y0 => F91_addr_number_1 y0) ⟨rfl, rfl⟩ (fun y0 _ hr => f91_ok y0 _ hr) _ hc29) rfl rfl ?_
    refine GX.q (.bool c29) ?_
    refine GX.done ?_
    rcases bool_two (c29) with hb4 | hb4
    ·rw [hb4]; first | replace hR := cond_f hb4 hR | (try simp only [hb4, bb] at hR)
     refine WK.condF rfl ?_
     refine WK.skip ?_
     refine WK.sr mixed ?_
     refine GX.m rfl ?_
     generalize hc33 : atoiO s0 = c33 at hR
     rcases c33 with _ | c33
     ·try dsimp only at hR
      cases hR
     try dsimp only at hR
     obtain ⟨c33a, c33b⟩ := c33; try dsimp only at hR
     refine GX.callp (r := .tup [.int .i64 c33a, .nili]) rfl rfl rfl (f60_ok s0 _ hc33) rfl rfl ?_
     refine GX.m rfl ?_
     refine GX.q (.int .i64 c33a) ?_
     refine GX.q (.nili) ?_
     iterate 2 refine GX.m rfl ?_
     refine GX.done ?_
     refine WK.sr mixed ?_
     iterate 3 refine GX.m rfl ?_
     refine GX.q (.bool (decide (c33a ≤ most1))) ?_
     iterate 2 refine GX.m rfl ?_
     refine GX.done ?_
     refine WK.ret ?_
     obtain rfl := Option.some.inj hR
     exact RetQ.fr [] (.inr rfl) rfl rfl rfl rfl
    ·rw [hb4]; first | replace hR := cond_t hb4 hR | (try simp only [hb4, bb] at hR)
     refine WK.condT rfl ?_
     refine WK.sr mixed ?_
     iterate 2 refine GX.m rfl ?_
     refine GX.done ?_
     refine WK.ret ?_
     obtain rfl := Option.some.inj hR
     exact RetQ.fr [] (.inr rfl) rfl rfl rfl rfl
   ·rw [hb3]; first | replace hR := cond_t hb3 hR | (try simp only [hb3, bb] at hR)
    refine GX.m rfl ?_
    rcases bool_two (decide ((0 : Int) < (s0.size : Int))) with hg5 | hg5
    ·simp only [hg5, bb] at hR
     try dsimp only at hR
     cases hR
    simp only [hg5, bb] at hR
    have hg5_ := of_decide_eq_true hg5
    refine GX.pure (v' := .int .u8 (strAt s0 0)) rfl rfl rfl (core_idxSG (by omega) (by omega)) rfl ?_
    iterate 3 refine GX.q (.bool (decide ((strAt s0 0) = 48))) ?_
    refine GX.m rfl ?_
    rcases bool_two (decide ((strAt s0 0) = 48)) with hb6 | hb6
    ·rw [hb6]; first | replace hR := cond_f hb6 hR | (try simp only [hb6, bb] at hR)
     iterate 2 refine GX.m rfl ?_
     generalize hc29 : containsFuncS s0 (fun y0 => F91_addr_number_1 y0) = c29 at hR
     try dsimp only at hR
     refine GX.callp (r := .bool c29) rfl rfl rfl (f92_ok s0 91 [] [] (fun y0 => F91_addr_number_1 y0) ⟨rfl, rfl⟩ (fun y0 _ hr => f91_ok y0 _ hr) _ hc29) rfl rfl ?_
     refine GX.q (.bool c29) ?_
     refine GX.done ?_
     rcases bool_two (c29) with hb7 | hb7
     ·rw [hb7]; first | replace hR := cond_f hb7 hR | (try simp only [hb7, bb] at hR)
      refine WK.condF rfl ?_
      refine WK.skip ?_
      refine WK.sr mixed ?_
      refine GX.m rfl ?_
      generalize hc33 : atoiO s0 = c33 at hR
      rcases c33 with _ | c33
      ·try dsimp only at hR
       cases hR
      try dsimp only at hR
      obtain ⟨c33a, c33b⟩ := c33; try dsimp only at hR
      refine GX.callp (r := .tup [.int .i64 c33a, .nili]) rfl rfl rfl (f60_ok s0 _ hc33) rfl rfl ?_
      refine GX.m rfl ?_
      refine GX.q (.int .i64 c33a) ?_
      refine GX.q (.nili) ?_
      iterate 2 refine GX.m rfl ?_
      refine GX.done ?_
      refine WK.sr mixed ?_
      iterate 3 refine GX.m rfl ?_
      refine GX.q (.bool (decide (c33a ≤ most1))) ?_
      iterate 2 refine GX.m rfl ?_
      refine GX.done ?_
      refine WK.ret ?_
      obtain rfl := Option.some.inj hR
      exact RetQ.fr [] (.inr rfl) rfl rfl rfl rfl
     ·rw [hb7]; first | replace hR := cond_t hb7 hR | (try simp only [hb7, bb] at hR)
      refine WK.condT rfl ?_
      refine WK.sr mixed ?_
      iterate 2 refine GX.m rfl ?_
      refine GX.done ?_
      refine WK.ret ?_
      obtain rfl := Option.some.inj hR
      exact RetQ.fr [] (.inr rfl) rfl rfl rfl rfl
    ·rw [hb6]; first | replace hR := cond_t hb6 hR | (try simp only [hb6, bb] at hR)
     iterate 3 refine GX.skip rfl rfl ?_
     refine GX.q (.bool true) ?_
     refine GX.done ?_
     refine WK.condT rfl ?_
     refine WK.sr mixed ?_
     iterate 2 refine GX.m rfl ?_
     refine GX.done ?_
     refine WK.ret ?_
     obtain rfl := Option.some.inj hR
     exact RetQ.fr [] (.inr rfl) rfl rfl rfl rfl
  ·rw [hb2]; first | replace hR := cond_t hb2 hR | (try simp only [hb2, bb] at hR)
   iterate 8 refine GX.skip rfl rfl ?_
   refine GX.q (.bool true) ?_
   refine GX.m rfl ?_
   iterate 3 refine GX.skip rfl rfl ?_
   refine GX.q (.bool true) ?_
   refine GX.done ?_
   refine WK.condT rfl ?_
   refine WK.sr mixed ?_
   iterate 2 refine GX.m rfl ?_
   refine GX.done ?_
   refine WK.ret ?_
   obtain rfl := Option.some.inj hR
   exact RetQ.fr [] (.inr rfl) rfl rfl rfl rfl
 ·rw [hb1]; try simp only [hb1, bb] at hR
  iterate 3 refine GX.skip rfl rfl ?_
  refine GX.q (.bool true) ?_
  refine GX.m rfl ?_
  iterate 8 refine GX.skip rfl rfl ?_
  refine GX.q (.bool true) ?_
  refine GX.m rfl ?_
  iterate 3 refine GX.skip rfl rfl ?_
  refine GX.q (.bool true) ?_
  refine GX.done ?_
  refine WK.condT rfl ?_
  refine WK.sr mixed ?_
  iterate 2 refine GX.m rfl ?_
  refine GX.done ?_
  refine WK.ret ?_
  obtain rfl := Option.some.inj hR
  exact RetQ.fr [] (.inr rfl) rfl rfl rfl rfl

theorem f32_ok (s0 : ByteArray) (R : TPrefix × Int) (hR : F32_addr_Parse s0 = some R) : FnOk Tryz.prog 32 [.str s0] [] 0 (.tup [.agg (TPrefix.c R.1), .int .i64 R.2]) [] 0 := by
 refine FnOk.wk i32 rfl rfl ?_
 unfold F32_addr_Parse at hR
 try dsimp only at hR
 change WK _ _ _ [ac32] _ ⟨[(0, .str s0)], [], 0⟩
 unfold ac32
 refine WK.sr mixed ?_
 refine GX.step (v' := .ptr 0 0) (heap' := [(0, .box [.int .u32 0, .int .i64 0])]) (next' := 1) rfl rfl rfl rfl rfl rfl rfl ?_
 refine GX.m rfl ?_
 refine GX.done ?_
 refine WK.sr mixed ?_
 refine GX.m rfl ?_
 generalize hc17 : cutO s0 (bstr [47]) = c17 at hR
 rcases c17 with _ | c17
 ·try dsimp only at hR
  cases hR
 try dsimp only at hR
 obtain ⟨c17a, c17b, c17c⟩ := c17; try dsimp only at hR
 refine GX.callp (r := .tup [.str c17a, .str c17b, .bool c17c]) rfl rfl rfl (f61_ok s0 (bstr [47]) _ hc17) rfl rfl ?_
 refine GX.m rfl ?_
 refine GX.q (.str c17a) ?_
 refine GX.q (.str c17b) ?_
 refine GX.q (.bool c17c) ?_
 iterate 3 refine GX.m rfl ?_
 refine GX.done ?_
 refine WK.sr mixed ?_
 refine GX.m rfl ?_
 generalize hc22 : splitO c17a (bstr [46]) = c22 at hR
 rcases c22 with _ | c22
 ·try dsimp only at hR
  cases hR
 try dsimp only at hR
 try dsimp only at hR
 refine GX.callp (r := .ro 1 (c22.map c_str)) rfl rfl rfl (f30_ok c17a (bstr [46]) _ hc22) rfl rfl ?_
 refine GX.m rfl ?_
 refine GX.done ?_
 refine WK.sr mixed ?_
 refine GX.m rfl ?_
 generalize hc25 : F62_addr_number c17b 32 = c25 at hR
 rcases c25 with _ | c25
 ·try dsimp only at hR
  cases hR
 try dsimp only at hR
 obtain ⟨c25a, c25b⟩ := c25; try dsimp only at hR
 refine GX.callp (r := .tup [.int .i64 c25a, .bool c25b]) rfl rfl rfl (f62_ok c17b 32 _ hc25) rfl rfl ?_
 refine GX.m rfl ?_
 refine GX.q (.int .i64 c25a) ?_
 refine GX.q (.bool c25b) ?_
 iterate 2 refine GX.m rfl ?_
 refine GX.done ?_
 refine WK.seq ?_
 refine WK.sr mixed ?_
 refine GX.m rfl ?_
 refine GX.q (.bool (!c17c)) ?_
 refine GX.m rfl ?_
 rcases bool_two (c17c) with hb1 | hb1
 ·rw [hb1]; first | replace hR := cond_f hb1 hR | (try simp only [hb1, bb] at hR)
  iterate 2 refine GX.skip rfl rfl ?_
  refine GX.q (.bool true) ?_
  refine GX.m rfl ?_
  iterate 3 refine GX.skip rfl rfl ?_
  refine GX.q (.bool true) ?_
  refine GX.done ?_
  refine WK.condT rfl ?_
  refine WK.sr mixed ?_
  refine GX.q (.agg [.int .u32 0, .int .i64 0]) ?_
  refine GX.step0 (heap' := [(0, .box [.int .u32 0, .int .i64 0])]) (next' := 1) rfl rfl rfl rfl rfl ?_
  refine GX.m rfl ?_
  refine GX.done ?_
  refine WK.ret ?_
  obtain rfl := Option.some.inj hR
  exact RetQ.fr [] (.inr rfl) rfl rfl rfl rfl
 ·rw [hb1]; first | replace hR := cond_t hb1 hR | (try simp only [hb1, bb] at hR)
  refine GX.m rfl ?_
  iterate 2 refine GX.q (.bool (!c25b)) ?_
  refine GX.m rfl ?_
  rcases bool_two (c25b) with hb2 | hb2
  ·rw [hb2]; first | replace hR := cond_f hb2 hR | (try simp only [hb2, bb] at hR)
   iterate 3 refine GX.skip rfl rfl ?_
   refine GX.q (.bool true) ?_
   refine GX.done ?_
   refine WK.condT rfl ?_
   refine WK.sr mixed ?_
   refine GX.q (.agg [.int .u32 0, .int .i64 0]) ?_
   refine GX.step0 (heap' := [(0, .box [.int .u32 0, .int .i64 0])]) (next' := 1) rfl rfl rfl rfl rfl ?_
   refine GX.m rfl ?_
   refine GX.done ?_
   refine WK.ret ?_
   obtain rfl := Option.some.inj hR
   exact RetQ.fr [] (.inr rfl) rfl rfl rfl rfl
  ·rw [hb2]; first | replace hR := cond_t hb2 hR | (try simp only [hb2, bb] at hR)
   refine GX.m rfl ?_
   refine GX.pure (v' := .int .i64 (c22.length : Int)) rfl rfl rfl rfl (len_map _ _) ?_
   iterate 2 refine GX.q (.bool (!decide ((c22.length : Int) = 4))) ?_
   refine GX.done ?_
   rcases bool_two (decide ((c22.length : Int) = 4)) with hb3 | hb3
   ·rw [hb3]; first | replace hR := cond_f hb3 hR | (try simp only [hb3, bb] at hR)
    refine WK.condT rfl ?_
    refine WK.sr mixed ?_
    refine GX.q (.agg [.int .u32 0, .int .i64 0]) ?_
    refine GX.step0 (heap' := [(0, .box [.int .u32 0, .int .i64 0])]) (next' := 1) rfl rfl rfl rfl rfl ?_
    refine GX.m rfl ?_
    refine GX.done ?_
    refine WK.ret ?_
    obtain rfl := Option.some.inj hR
    exact RetQ.fr [] (.inr rfl) rfl rfl rfl rfl
   ·rw [hb3]; first | replace hR := cond_t hb3 hR | (try simp only [hb3, bb] at hR)
    refine WK.condF rfl ?_
    refine WK.skip ?_
    refine WK.sr mixed ?_
    refine GX.m rfl ?_
    refine GX.q (.agg [.int .u32 0, .int .i64 c25a]) ?_
    refine GX.step (v' := .ptr 1 0) (heap' := [(0, .box [.int .u32 0, .int .i64 0]), (1, .box [.int .u32 0, .int .i64 0])]) (next' := 2) rfl rfl rfl rfl rfl rfl rfl ?_
    refine GX.step0 (heap' := [(0, .box [.int .u32 0, .int .i64 0]), (1, .box [.int .u32 0, .int .i64 c25a])]) (next' := 2) rfl rfl rfl rfl rfl ?_
    refine GX.done ?_
    refine WK.seq ?_
    refine WK.sr mixed ?_
    refine GX.m rfl ?_
    refine GX.pure (v' := .int .i64 (c22.length : Int)) rfl rfl rfl rfl (len_map _ _) ?_
    refine GX.m rfl ?_
    refine GX.done ?_
    refine WK.len (t := 22) rfl (by simp) (fun hlen_9 => ?_)
    rw [List.length_map] at hlen_9
    generalize hZ_9 : F32_addr_Parse_l1 (⟨0, c25a⟩ : TPrefix) c22 = Z_9 at hR
    refine WK.forK (fun k s => ∃ (i44 : Nat) (p10 : TPrefix), i44 ≤ c22.length ∧ k = c22.length - i44 ∧ F32_addr_Parse_l1 p10 (c22.drop i44) = Z_9 ∧ s = ⟨[(2, .ptr 0 0), (10, .ptr 1 0), (42, .ro 1 (c22.map c_str)), (43, .int .i64 (c22.length : Int)), (44, .int .i64 (i44 : Int))], [(0, .box [.int .u32 0, .int .i64 0]), (1, .box (TPrefix.c p10))], 2⟩) c22.length ⟨⟨[(2, .ptr 0 0), (10, .ptr 1 0), (42, .ro 1 (c22.map c_str)), (43, .int .i64 (c22.length : Int)), (44, .int .i64 (0 : Int))], [(0, .box [.int .u32 0, .int .i64 0]), (1, .box (TPrefix.c (⟨0, c25a⟩ : TPrefix)))], 2⟩, Conv.keep [0, 1] [] [2, 10, 42, 43, 44] rfl rfl (viewE_cons rfl rfl (viewE_cons rfl rfl (viewE_cons rfl rfl (viewE_cons rfl rfl (viewE_cons rfl rfl viewE_nil))))) rfl rfl, 0, (⟨0, c25a⟩ : TPrefix), (by omega), rfl, hZ_9, rfl⟩ ?_
    rintro _ _ ⟨i44, p10, hi_9, rfl, hL_9, rfl⟩ again_9 out_9 Q_9 hagain_9 hout_9 hQ_9
    refine WK.sr mixed ?_
    refine GX.q (.bool (decide ((i44 : Int) < (c22.length : Int)))) ?_
    refine GX.done ?_
    refine WK.seq ?_
    rcases bool_two (decide ((i44 : Int) < (c22.length : Int))) with hb10 | hb10
    ·rw [hb10]
     rw [drop_end hb10, F32_addr_Parse_l1] at hL_9
     refine WK.condF rfl ?_
     refine WK.exit ?_
     refine QF.exit (hout_9 _ ?_)
     subst hL_9
     try dsimp only [cond_true, cond_false] at hR
     refine WK.seq ?_
     refine WK.sr mixed ?_
     refine GX.q (.agg (TPrefix.c p10)) ?_
     generalize hc65 : F37_addr_May p10 = c65 at hR
     try dsimp only at hR
     refine GX.callp (r := .bool c65) rfl rfl rfl (f37_ok p10 _ hc65) rfl rfl ?_
     refine GX.q (.bool (!c65)) ?_
     refine GX.done ?_
     rcases bool_two (c65) with hb11 | hb11
     ·rw [hb11]; first | replace hR := cond_f hb11 hR | (try simp only [hb11, bb] at hR)
      refine WK.condT rfl ?_
      refine WK.sr mixed ?_
      refine GX.q (.agg [.int .u32 0, .int .i64 0]) ?_
      refine GX.step0 (heap' := [(0, .box [.int .u32 0, .int .i64 0]), (1, .box (TPrefix.c p10))]) (next' := 2) rfl rfl rfl rfl rfl ?_
      refine GX.m rfl ?_
      refine GX.done ?_
      refine WK.ret ?_
      obtain rfl := Option.some.inj hR
      exact RetQ.fr [] (.inr rfl) rfl rfl rfl rfl
     ·rw [hb11]; first | replace hR := cond_t hb11 hR | (try simp only [hb11, bb] at hR)
      refine WK.condF rfl ?_
      refine WK.skip ?_
      refine WK.sr mixed ?_
      refine GX.q (.agg (TPrefix.c p10)) ?_
      refine GX.step0 (heap' := [(0, .box (TPrefix.c p10)), (1, .box (TPrefix.c p10))]) (next' := 2) rfl rfl rfl rfl rfl ?_
      refine GX.m rfl ?_
      refine GX.done ?_
      refine WK.ret ?_
      obtain rfl := Option.some.inj hR
      exact RetQ.fr [] (.inr rfl) rfl rfl rfl rfl
    ·rw [hb10]
     obtain ⟨x44, hx9, hd9, hlt9⟩ := drop_more hb10
     rw [hd9, F32_addr_Parse_l1] at hL_9
     refine WK.condT rfl ?_
     refine WK.skip ?_
     refine WK.seq ?_
     refine WK.blockK (fun _ hK12 => ?_)
     refine WK.sr mixed ?_
     refine GX.idxT (c := c_str) (x := x44) rfl rfl rfl (Int.natCast_nonneg _) hx9 ?_
     refine GX.q (.str x44) ?_
     refine GX.m rfl ?_
     refine GX.done ?_
     refine WK.sr mixed ?_
     refine GX.m rfl ?_
     generalize hc50 : F62_addr_number x44 255 = c50 at hL_9
     rcases c50 with _ | c50
     ·try dsimp only at hL_9
      subst hL_9
      try dsimp only at hR
      cases hR
     try dsimp only at hL_9
     obtain ⟨c50a, c50b⟩ := c50; try dsimp only at hL_9
     refine GX.callp (r := .tup [.int .i64 c50a, .bool c50b]) rfl rfl rfl (f62_ok x44 255 _ hc50) rfl rfl ?_
     refine GX.m rfl ?_
     refine GX.q (.int .i64 c50a) ?_
     refine GX.q (.bool c50b) ?_
     iterate 2 refine GX.m rfl ?_
     refine GX.done ?_
     refine WK.seq ?_
     refine WK.sr mixed ?_
     refine GX.m rfl ?_
     refine GX.q (.bool (!c50b)) ?_
     refine GX.done ?_
     rcases bool_two (c50b) with hb13 | hb13
     ·rw [hb13]; try simp only [hb13, bb] at hL_9
      refine WK.condT rfl ?_
      refine WK.sr mixed ?_
      refine GX.q (.agg [.int .u32 0, .int .i64 0]) ?_
      refine GX.step0 (heap' := [(0, .box [.int .u32 0, .int .i64 0]), (1, .box (TPrefix.c p10))]) (next' := 2) rfl rfl rfl rfl rfl ?_
      refine GX.m rfl ?_
      refine GX.done ?_
      refine WK.ret ?_
      refine QF.ret ?_
      refine QF.ret (hQ_9 _ _ ?_)
      subst hL_9
      try dsimp only at hR
      obtain rfl := Option.some.inj hR
      exact RetQ.fr [] (.inr rfl) rfl rfl rfl rfl
     ·rw [hb13]; try simp only [hb13, bb] at hL_9
      refine WK.condF rfl ?_
      refine WK.skip ?_
      refine WK.regx mixed ?_
      refine GX.q (.ptr 1 0) ?_
      refine GX.q (.int .u32 p10.A) ?_
      refine GX.q (.int .u32 (IntKind.u32.wrap (p10.A * 2 ^ 8))) ?_
      refine GX.m rfl ?_
      refine GX.q (.int .u32 (IntKind.u32.wrap c50a)) ?_
      refine GX.q (.int .u32 (bit_or .u32 (IntKind.u32.wrap (p10.A * 2 ^ 8)) (IntKind.u32.wrap c50a))) ?_
      refine GX.q (.ptr 1 0) ?_
      refine GX.step0 (heap' := [(0, .box [.int .u32 0, .int .i64 0]), (1, .box [.int .u32 (bit_or .u32 (IntKind.u32.wrap (p10.A * 2 ^ 8)) (IntKind.u32.wrap c50a)), .int .i64 p10.N])]) (next' := 2) rfl rfl rfl rfl rfl ?_
      refine GX.done ?_
      refine WK.nil (QF.normal (hK12 _ ?_))
      refine WK.regx mixed ?_
      refine GX.pure (v' := .int .i64 ((i44 + 1 : Nat) : Int)) rfl rfl rfl rfl (congrArg (PVal.int .i64) (wrap_up hlt9 hlen_9)) ?_
      refine GX.m rfl ?_
      refine GX.done ?_
      refine WK.nil (QF.normal ?_)
      exact hagain_9 _ (c22.length - (i44 + 1)) ⟨[(2, .ptr 0 0), (10, .ptr 1 0), (42, .ro 1 (c22.map c_str)), (43, .int .i64 (c22.length : Int)), (44, .int .i64 ((i44 + 1) : Int))], [(0, .box [.int .u32 0, .int .i64 0]), (1, .box (TPrefix.c (⟨bit_or .u32 (IntKind.u32.wrap (p10.A * 2 ^ 8)) (IntKind.u32.wrap c50a), p10.N⟩ : TPrefix)))], 2⟩ (by omega) (Conv.keep [0, 1] [] [2, 10, 42, 43, 44] rfl rfl (viewE_cons rfl rfl (viewE_cons rfl rfl (viewE_cons rfl rfl (viewE_cons rfl rfl (viewE_cons rfl rfl viewE_nil))))) rfl rfl) ⟨i44 + 1, (⟨bit_or .u32 (IntKind.u32.wrap (p10.A * 2 ^ 8)) (IntKind.u32.wrap c50a), p10.N⟩ : TPrefix), (by omega), rfl, hL_9, rfl⟩

theorem f33_ok (x0 : TRule) (l1 : List ByteArray) (R : Bool × TRule) (hR : F33_plist_Rule_limits x0 l1 = some R) : FnOk Tryz.prog 33 [.ptr 0 0, .ro 1 (l1.map c_str)] [(0, .box (TRule.c x0))] 1 (.bool R.1) [(0, .box (TRule.c R.2))] 1 := by
 refine FnOk.wk i33 rfl rfl ?_
 unfold F33_plist_Rule_limits at hR
 try dsimp only at hR
 change WK _ _ _ [ac33] _ ⟨[(0, .ptr 0 0), (1, .ro 1 (l1.map c_str))], [(0, .box (TRule.c x0))], 1⟩
 unfold ac33
 refine WK.sr mixed ?_
 refine GX.m rfl ?_
 refine GX.done ?_
 iterate 2 refine WK.seq ?_
 refine WK.drawn mixed ?_
 refine RD.m rfl ?_
 refine RD.q (.ptr 0 0) ?_
 refine RD.q (.ptr 0 4) ?_
 refine RD.q (.agg [.str (bstr [103, 101]), .ptr 0 4]) ?_
 refine RD.m rfl ?_
 refine RD.q (.ptr 0 0) ?_
 refine RD.q (.ptr 0 5) ?_
 refine RD.q (.agg [.str (bstr [108, 101]), .ptr 0 5]) ?_
 refine RD.step (v' := .own 1 2 0 2) (heap' := [(0, .box (TRule.c x0)), (1, .box [.str (bstr [103, 101]), .ptr 0 4, .str (bstr [108, 101]), .ptr 0 5])]) (next' := 2) rfl rfl rfl rfl rfl rfl rfl ?_
 refine RD.q (.int .i64 2) ?_
 refine RD.m rfl ?_
 refine RD.done rfl ?_
 refine WK.unroll 4 (WU.go ?_)
 refine WK.sr mixed ?_
 refine GX.q (.bool true) ?_
 refine GX.done ?_
 refine WK.seq ?_
 refine WK.condT rfl ?_
 refine WK.skip ?_
 refine WK.seq ?_
 refine WK.blockK (fun _ hK2 => ?_)
 refine WK.sr mixed ?_
 refine GX.q (.ptr 1 0) ?_
 refine GX.q (.agg [.str (bstr [103, 101]), .ptr 0 4]) ?_
 refine GX.step (v' := .ptr 2 0) (heap' := [(0, .box (TRule.c x0)), (1, .box [.str (bstr [103, 101]), .ptr 0 4, .str (bstr [108, 101]), .ptr 0 5]), (2, .box [.str (bstr []), .nilp])]) (next' := 3) rfl rfl rfl rfl rfl rfl rfl ?_
 refine GX.step0 (heap' := [(0, .box (TRule.c x0)), (1, .box [.str (bstr [103, 101]), .ptr 0 4, .str (bstr [108, 101]), .ptr 0 5]), (2, .box [.str (bstr [103, 101]), .ptr 0 4])]) (next' := 3) rfl rfl rfl rfl rfl ?_
 refine GX.done ?_
 iterate 2 refine WK.seq ?_
 refine WK.drawn mixed ?_
 refine RD.m rfl ?_
 refine RD.pure (v' := .int .i64 (l1.length : Int)) rfl rfl rfl rfl (len_map _ _) ?_
 refine RD.q (.bool (decide ((l1.length : Int) < 2))) ?_
 refine RD.m rfl ?_
 rcases bool_two (decide ((l1.length : Int) < 2)) with hb3 | hb3
 ·rw [hb3]; first | replace hR := cond_f hb3 hR | (try simp only [hb3, bb] at hR)
  refine RD.m rfl ?_
  generalize hx903 : getI l1 0 = x903 at hR
  rcases x903 with _ | x903
  ·try dsimp only at hR
   cases hR
  try dsimp only at hR
  obtain ⟨hx9030, hx903j, hx903l, hx903⟩ := getI_some hx903
  refine RD.idxT (c := c_str) (x := x903) rfl rfl rfl hx9030 hx903 ?_
  refine RD.q (.str x903) ?_
  refine RD.q (.ptr 2 0) ?_
  refine RD.q (.str (bstr [103, 101])) ?_
  iterate 2 refine RD.q (.bool (!(x903.toList == (bstr [103, 101]).toList))) ?_
  refine RD.done rfl ?_
  rcases bool_two (x903.toList == (bstr [103, 101]).toList) with hb5 | hb5
  ·rw [hb5]; first | replace hR := cond_f hb5 hR | (try simp only [hb5, bb] at hR)
   refine WK.condT rfl ?_
   refine WK.exit ?_
   refine QF.exit (hK2 _ ?_)
   refine WK.regx mixed ?_
   refine GX.q (.int .i64 1) ?_
   refine GX.m rfl ?_
   refine GX.done ?_
   refine WK.nil (QF.normal (WU.go ?_))
   refine WK.sr mixed ?_
   refine GX.q (.bool true) ?_
   refine GX.done ?_
   refine WK.seq ?_
   refine WK.condT rfl ?_
   refine WK.skip ?_
   refine WK.seq ?_
   refine WK.blockK (fun _ hK6 => ?_)
   refine WK.sr mixed ?_
   refine GX.q (.ptr 1 2) ?_
   refine GX.q (.agg [.str (bstr [108, 101]), .ptr 0 5]) ?_
   refine GX.step (v' := .ptr 3 0) (heap' := [(0, .box (TRule.c x0)), (1, .box [.str (bstr [103, 101]), .ptr 0 4, .str (bstr [108, 101]), .ptr 0 5]), (2, .box [.str (bstr [103, 101]), .ptr 0 4]), (3, .box [.str (bstr []), .nilp])]) (next' := 4) rfl rfl rfl rfl rfl rfl rfl ?_
   refine GX.step0 (heap' := [(0, .box (TRule.c x0)), (1, .box [.str (bstr [103, 101]), .ptr 0 4, .str (bstr [108, 101]), .ptr 0 5]), (2, .box [.str (bstr [103, 101]), .ptr 0 4]), (3, .box [.str (bstr [108, 101]), .ptr 0 5])]) (next' := 4) rfl rfl rfl rfl rfl ?_
   refine GX.done ?_
   iterate 2 refine WK.seq ?_
   refine WK.drawn mixed ?_
   refine RD.m rfl ?_
   refine RD.pure (v' := .int .i64 (l1.length : Int)) rfl rfl rfl rfl (len_map _ _) ?_
   refine RD.q (.bool (decide ((l1.length : Int) < 2))) ?_
   refine RD.m rfl ?_
   rw [hb3]
   refine RD.m rfl ?_
   refine RD.idxT (c := c_str) (x := x903) rfl rfl rfl hx9030 hx903 ?_
   refine RD.q (.str x903) ?_
   refine RD.q (.ptr 3 0) ?_
   refine RD.q (.str (bstr [108, 101])) ?_
   iterate 2 refine RD.q (.bool (!(x903.toList == (bstr [108, 101]).toList))) ?_
   refine RD.done rfl ?_
   rcases bool_two (x903.toList == (bstr [108, 101]).toList) with hb7 | hb7
   ·rw [hb7]; first | replace hR := cond_f hb7 hR | (try simp only [hb7, bb] at hR)
    refine WK.condT rfl ?_
    refine WK.exit ?_
    refine QF.exit (hK6 _ ?_)
    refine WK.regx mixed ?_
    refine GX.q (.int .i64 2) ?_
    refine GX.m rfl ?_
    refine GX.done ?_
    refine WK.nil (QF.normal (WU.go ?_))
    refine WK.sr mixed ?_
    refine GX.q (.bool false) ?_
    refine GX.done ?_
    refine WK.seq ?_
    refine WK.condF rfl ?_
    refine WK.exit ?_
    refine QF.exit ?_
    refine WK.sr mixed ?_
    refine GX.m rfl ?_
    refine GX.pure (v' := .int .i64 (l1.length : Int)) rfl rfl rfl rfl (len_map _ _) ?_
    refine GX.q (.bool (decide ((l1.length : Int) = 0))) ?_
    refine GX.m rfl ?_
    refine GX.done ?_
    refine WK.ret ?_
    obtain rfl := Option.some.inj hR
    exact RetQ.ret [0] [] (.inr rfl) rfl rfl rfl rfl rfl .refl rfl
   ·rw [hb7]; first | replace hR := cond_t hb7 hR | (try simp only [hb7, bb] at hR)
    refine WK.condF rfl ?_
    refine WK.skip ?_
    refine WK.sr mixed ?_
    refine GX.m rfl ?_
    generalize hx907 : getI l1 1 = x907 at hR
    rcases x907 with _ | x907
    ·try dsimp only at hR
     cases hR
    try dsimp only at hR
    obtain ⟨hx9070, hx907j, hx907l, hx907⟩ := getI_some hx907
    refine GX.idxT (c := c_str) (x := x907) rfl rfl rfl hx9070 hx907 ?_
    refine GX.q (.str x907) ?_
    generalize hc36 : F31_plist_number x907 = c36 at hR
    rcases c36 with _ | c36
    ·try dsimp only at hR
     cases hR
    try dsimp only at hR
    try dsimp only at hR
    refine GX.callp (r := .int .i64 c36) rfl rfl rfl (f31_ok x907 _ hc36) rfl rfl ?_
    refine GX.m rfl ?_
    refine GX.done ?_
    refine WK.seq ?_
    refine WK.sr mixed ?_
    refine GX.m rfl ?_
    refine GX.q (.bool (decide (c36 = 0))) ?_
    refine GX.done ?_
    rcases bool_two (decide (c36 = 0)) with hb9 | hb9
    ·rw [hb9]; first | replace hR := cond_f hb9 hR | (try simp only [hb9, bb] at hR)
     refine WK.condF rfl ?_
     refine WK.skip ?_
     refine WK.sr mixed ?_
     refine GX.q (.ptr 3 1) ?_
     refine GX.q (.ptr 0 5) ?_
     refine GX.m rfl ?_
     refine GX.q (.ptr 0 5) ?_
     refine GX.step0 (heap' := [(0, .box [.int .i64 x0.Seq, .bool x0.Permit, .int .u32 x0.P.A, .int .i64 x0.P.N, .int .i64 x0.Ge, .int .i64 c36]), (1, .box [.str (bstr [103, 101]), .ptr 0 4, .str (bstr [108, 101]), .ptr 0 5]), (2, .box [.str (bstr [103, 101]), .ptr 0 4]), (3, .box [.str (bstr [108, 101]), .ptr 0 5])]) (next' := 4) rfl rfl rfl rfl rfl ?_
     refine GX.done ?_
     refine WK.regx mixed ?_
     refine GX.m rfl ?_
     rcases bool_two (decide ((2 : Int) ≤ (l1.length : Int))) with hg10 | hg10
     ·simp only [hg10, bb] at hR
      try dsimp only at hR
      cases hR
     simp only [hg10, bb] at hR
     have hg10_ := of_decide_eq_true hg10
     refine GX.sliceLo (c := c_str) (M := (l1.drop 2)) rfl rfl rfl (by omega) (by omega) rfl ?_
     refine GX.m rfl ?_
     refine GX.done ?_
     refine WK.nil (QF.normal (hK6 _ ?_))
     refine WK.regx mixed ?_
     refine GX.q (.int .i64 2) ?_
     refine GX.m rfl ?_
     refine GX.done ?_
     refine WK.nil (QF.normal (WU.go ?_))
     refine WK.sr mixed ?_
     refine GX.q (.bool false) ?_
     refine GX.done ?_
     refine WK.seq ?_
     refine WK.condF rfl ?_
     refine WK.exit ?_
     refine QF.exit ?_
     refine WK.sr mixed ?_
     refine GX.m rfl ?_
     refine GX.pure (v' := .int .i64 ((l1.drop 2).length : Int)) rfl rfl rfl rfl (len_map _ _) ?_
     refine GX.q (.bool (decide (((l1.drop 2).length : Int) = 0))) ?_
     refine GX.m rfl ?_
     refine GX.done ?_
     refine WK.ret ?_
     obtain rfl := Option.some.inj hR
     exact RetQ.ret [0] [] (.inr rfl) rfl rfl rfl rfl rfl .refl rfl
    ·rw [hb9]; first | replace hR := cond_t hb9 hR | (try simp only [hb9, bb] at hR)
     refine WK.condT rfl ?_
     refine WK.sr mixed ?_
     refine GX.m rfl ?_
     refine GX.done ?_
     refine WK.ret ?_
     iterate 2 refine QF.ret ?_
     obtain rfl := Option.some.inj hR
     exact RetQ.ret [0] [] (.inr rfl) rfl rfl rfl rfl rfl .refl rfl
  ·rw [hb5]; first | replace hR := cond_t hb5 hR | (try simp only [hb5, bb] at hR)
   refine WK.condF rfl ?_
   refine WK.skip ?_
   refine WK.sr mixed ?_
   refine GX.m rfl ?_
   generalize hx910 : getI l1 1 = x910 at hR
   rcases x910 with _ | x910
   ·try dsimp only at hR
    cases hR
   try dsimp only at hR
   obtain ⟨hx9100, hx910j, hx910l, hx910⟩ := getI_some hx910
   refine GX.idxT (c := c_str) (x := x910) rfl rfl rfl hx9100 hx910 ?_
   refine GX.q (.str x910) ?_
   generalize hc36 : F31_plist_number x910 = c36 at hR
   rcases c36 with _ | c36
   ·try dsimp only at hR
    cases hR
   try dsimp only at hR
   try dsimp only at hR
   refine GX.callp (r := .int .i64 c36) rfl rfl rfl (f31_ok x910 _ hc36) rfl rfl ?_
   refine GX.m rfl ?_
   refine GX.done ?_
   refine WK.seq ?_
   refine WK.sr mixed ?_
   refine GX.m rfl ?_
   refine GX.q (.bool (decide (c36 = 0))) ?_
   refine GX.done ?_
   rcases bool_two (decide (c36 = 0)) with hb12 | hb12
   ·rw [hb12]; first | replace hR := cond_f hb12 hR | (try simp only [hb12, bb] at hR)
    refine WK.condF rfl ?_
    refine WK.skip ?_
    refine WK.sr mixed ?_
    refine GX.q (.ptr 2 1) ?_
    refine GX.q (.ptr 0 4) ?_
    refine GX.m rfl ?_
    refine GX.q (.ptr 0 4) ?_
    refine GX.step0 (heap' := [(0, .box [.int .i64 x0.Seq, .bool x0.Permit, .int .u32 x0.P.A, .int .i64 x0.P.N, .int .i64 c36, .int .i64 x0.Le]), (1, .box [.str (bstr [103, 101]), .ptr 0 4, .str (bstr [108, 101]), .ptr 0 5]), (2, .box [.str (bstr [103, 101]), .ptr 0 4])]) (next' := 3) rfl rfl rfl rfl rfl ?_
    refine GX.done ?_
    refine WK.regx mixed ?_
    refine GX.m rfl ?_
    rcases bool_two (decide ((2 : Int) ≤ (l1.length : Int))) with hg13 | hg13
    ·simp only [hg13, bb] at hR
     try dsimp only at hR
     cases hR
    simp only [hg13, bb] at hR
    have hg13_ := of_decide_eq_true hg13
    refine GX.sliceLo (c := c_str) (M := (l1.drop 2)) rfl rfl rfl (by omega) (by omega) rfl ?_
    refine GX.m rfl ?_
    refine GX.done ?_
    refine WK.nil (QF.normal (hK2 _ ?_))
    refine WK.regx mixed ?_
    refine GX.q (.int .i64 1) ?_
    refine GX.m rfl ?_
    refine GX.done ?_
    refine WK.nil (QF.normal (WU.go ?_))
    refine WK.sr mixed ?_
    refine GX.q (.bool true) ?_
    refine GX.done ?_
    refine WK.seq ?_
    refine WK.condT rfl ?_
    refine WK.skip ?_
    refine WK.seq ?_
    refine WK.blockK (fun _ hK14 => ?_)
    refine WK.sr mixed ?_
    refine GX.q (.ptr 1 2) ?_
    refine GX.q (.agg [.str (bstr [108, 101]), .ptr 0 5]) ?_
    refine GX.step (v' := .ptr 3 0) (heap' := [(0, .box [.int .i64 x0.Seq, .bool x0.Permit, .int .u32 x0.P.A, .int .i64 x0.P.N, .int .i64 c36, .int .i64 x0.Le]), (1, .box [.str (bstr [103, 101]), .ptr 0 4, .str (bstr [108, 101]), .ptr 0 5]), (2, .box [.str (bstr [103, 101]), .ptr 0 4]), (3, .box [.str (bstr []), .nilp])]) (next' := 4) rfl rfl rfl rfl rfl rfl rfl ?_
    refine GX.step0 (heap' := [(0, .box [.int .i64 x0.Seq, .bool x0.Permit, .int .u32 x0.P.A, .int .i64 x0.P.N, .int .i64 c36, .int .i64 x0.Le]), (1, .box [.str (bstr [103, 101]), .ptr 0 4, .str (bstr [108, 101]), .ptr 0 5]), (2, .box [.str (bstr [103, 101]), .ptr 0 4]), (3, .box [.str (bstr [108, 101]), .ptr 0 5])]) (next' := 4) rfl rfl rfl rfl rfl ?_
    refine GX.done ?_
    iterate 2 refine WK.seq ?_
    refine WK.drawn mixed ?_
    refine RD.m rfl ?_
    refine RD.pure (v' := .int .i64 ((l1.drop 2).length : Int)) rfl rfl rfl rfl (len_map _ _) ?_
    refine RD.q (.bool (decide (((l1.drop 2).length : Int) < 2))) ?_
    refine RD.m rfl ?_
    rcases bool_two (decide (((l1.drop 2).length : Int) < 2)) with hb15 | hb15
    ·rw [hb15]; first | replace hR := cond_f hb15 hR | (try simp only [hb15, bb] at hR)
     refine RD.m rfl ?_
     generalize hx915 : getI (l1.drop 2) 0 = x915 at hR
     rcases x915 with _ | x915
     ·try dsimp only at hR
      cases hR
     try dsimp only at hR
     obtain ⟨hx9150, hx915j, hx915l, hx915⟩ := getI_some hx915
     refine RD.idxT (c := c_str) (x := x915) rfl rfl rfl hx9150 hx915 ?_
     refine RD.q (.str x915) ?_
     refine RD.q (.ptr 3 0) ?_
     refine RD.q (.str (bstr [108, 101])) ?_
     iterate 2 refine RD.q (.bool (!(x915.toList == (bstr [108, 101]).toList))) ?_
     refine RD.done rfl ?_
     rcases bool_two (x915.toList == (bstr [108, 101]).toList) with hb17 | hb17
     ·rw [hb17]; first | replace hR := cond_f hb17 hR | (try simp only [hb17, bb] at hR)
      refine WK.condT rfl ?_
      refine WK.exit ?_
      refine QF.exit (hK14 _ ?_)
      refine WK.regx mixed ?_
      refine GX.q (.int .i64 2) ?_
      refine GX.m rfl ?_
      refine GX.done ?_
      refine WK.nil (QF.normal (WU.go ?_))
      refine WK.sr mixed ?_
      refine GX.q (.bool false) ?_
      refine GX.done ?_
      refine WK.seq ?_
      refine WK.condF rfl ?_
      refine WK.exit ?_
      refine QF.exit ?_
      refine WK.sr mixed ?_
      refine GX.m rfl ?_
      refine GX.pure (v' := .int .i64 ((l1.drop 2).length : Int)) rfl rfl rfl rfl (len_map _ _) ?_
      refine GX.q (.bool (decide (((l1.drop 2).length : Int) = 0))) ?_
      refine GX.m rfl ?_
      refine GX.done ?_
      refine WK.ret ?_
      obtain rfl := Option.some.inj hR
      exact RetQ.ret [0] [] (.inr rfl) rfl rfl rfl rfl rfl .refl rfl
     ·rw [hb17]; first | replace hR := cond_t hb17 hR | (try simp only [hb17, bb] at hR)
      refine WK.condF rfl ?_
      refine WK.skip ?_
      refine WK.sr mixed ?_
      refine GX.m rfl ?_
      generalize hx917 : getI (l1.drop 2) 1 = x917 at hR
      rcases x917 with _ | x917
      ·try dsimp only at hR
       cases hR
      try dsimp only at hR
      obtain ⟨hx9170, hx917j, hx917l, hx917⟩ := getI_some hx917
      refine GX.idxT (c := c_str) (x := x917) rfl rfl rfl hx9170 hx917 ?_
      refine GX.q (.str x917) ?_
      generalize hc36x : F31_plist_number x917 = c36x at hR
      rcases c36x with _ | c36x
      ·try dsimp only at hR
       cases hR
      try dsimp only at hR
      try dsimp only at hR
      refine GX.callp (r := .int .i64 c36x) rfl rfl rfl (f31_ok x917 _ hc36x) rfl rfl ?_
      refine GX.m rfl ?_
      refine GX.done ?_
      refine WK.seq ?_
      refine WK.sr mixed ?_
      refine GX.m rfl ?_
      refine GX.q (.bool (decide (c36x = 0))) ?_
      refine GX.done ?_
      rcases bool_two (decide (c36x = 0)) with hb19 | hb19
      ·rw [hb19]; first | replace hR := cond_f hb19 hR | (try simp only [hb19, bb] at hR)
       refine WK.condF rfl ?_
       refine WK.skip ?_
       refine WK.sr mixed ?_
       refine GX.q (.ptr 3 1) ?_
       refine GX.q (.ptr 0 5) ?_
       refine GX.m rfl ?_
       refine GX.q (.ptr 0 5) ?_
       refine GX.step0 (heap' := [(0, .box [.int .i64 x0.Seq, .bool x0.Permit, .int .u32 x0.P.A, .int .i64 x0.P.N, .int .i64 c36, .int .i64 c36x]), (1, .box [.str (bstr [103, 101]), .ptr 0 4, .str (bstr [108, 101]), .ptr 0 5]), (2, .box [.str (bstr [103, 101]), .ptr 0 4]), (3, .box [.str (bstr [108, 101]), .ptr 0 5])]) (next' := 4) rfl rfl rfl rfl rfl ?_
       refine GX.done ?_
       refine WK.regx mixed ?_
       refine GX.m rfl ?_
       rcases bool_two (decide ((2 : Int) ≤ ((l1.drop 2).length : Int))) with hg20 | hg20
       ·simp only [hg20, bb] at hR
        try dsimp only at hR
        cases hR
       simp only [hg20, bb] at hR
       have hg20_ := of_decide_eq_true hg20
       refine GX.sliceLo (c := c_str) (M := ((l1.drop 2).drop 2)) rfl rfl rfl (by omega) (by omega) rfl ?_
       refine GX.m rfl ?_
       refine GX.done ?_
       refine WK.nil (QF.normal (hK14 _ ?_))
       refine WK.regx mixed ?_
       refine GX.q (.int .i64 2) ?_
       refine GX.m rfl ?_
       refine GX.done ?_
       refine WK.nil (QF.normal (WU.go ?_))
       refine WK.sr mixed ?_
       refine GX.q (.bool false) ?_
       refine GX.done ?_
       refine WK.seq ?_
       refine WK.condF rfl ?_
       refine WK.exit ?_
       refine QF.exit ?_
       refine WK.sr mixed ?_
       refine GX.m rfl ?_
       refine GX.pure (v' := .int .i64 (((l1.drop 2).drop 2).length : Int)) rfl rfl rfl rfl (len_map _ _) ?_
       refine GX.q (.bool (decide ((((l1.drop 2).drop 2).length : Int) = 0))) ?_
       refine GX.m rfl ?_
       refine GX.done ?_
       refine WK.ret ?_
       obtain rfl := Option.some.inj hR
       exact RetQ.ret [0] [] (.inr rfl) rfl rfl rfl rfl rfl .refl rfl
      ·rw [hb19]; first | replace hR := cond_t hb19 hR | (try simp only [hb19, bb] at hR)
       refine WK.condT rfl ?_
       refine WK.sr mixed ?_
       refine GX.m rfl ?_
       refine GX.done ?_
       refine WK.ret ?_
       iterate 2 refine QF.ret ?_
       obtain rfl := Option.some.inj hR
       exact RetQ.ret [0] [] (.inr rfl) rfl rfl rfl rfl rfl .refl rfl
    ·rw [hb15]; first | replace hR := cond_t hb15 hR | (try simp only [hb15, bb] at hR)
     iterate 6 refine RD.skip rfl rfl ?_
     refine RD.q (.bool true) ?_
     refine RD.done rfl ?_
     refine WK.condT rfl ?_
     refine WK.exit ?_
     refine QF.exit (hK14 _ ?_)
     refine WK.regx mixed ?_
     refine GX.q (.int .i64 2) ?_
     refine GX.m rfl ?_
     refine GX.done ?_
     refine WK.nil (QF.normal (WU.go ?_))
     refine WK.sr mixed ?_
     refine GX.q (.bool false) ?_
     refine GX.done ?_
     refine WK.seq ?_
     refine WK.condF rfl ?_
     refine WK.exit ?_
     refine QF.exit ?_
     refine WK.sr mixed ?_
     refine GX.m rfl ?_
     refine GX.pure (v' := .int .i64 ((l1.drop 2).length : Int)) rfl rfl rfl rfl (len_map _ _) ?_
     refine GX.q (.bool (decide (((l1.drop 2).length : Int) = 0))) ?_
     refine GX.m rfl ?_
     refine GX.done ?_
     refine WK.ret ?_
     obtain rfl := Option.some.inj hR
     exact RetQ.ret [0] [] (.inr rfl) rfl rfl rfl rfl rfl .refl rfl
   ·rw [hb12]; first | replace hR := cond_t hb12 hR | (try simp only [hb12, bb] at hR)
    refine WK.condT rfl ?_
    refine WK.sr mixed ?_
    refine GX.m rfl ?_
    refine GX.done ?_
    refine WK.ret ?_
    iterate 2 refine QF.ret ?_
    obtain rfl := Option.some.inj hR
    exact RetQ.ret [0] [] (.inr rfl) rfl rfl rfl rfl rfl .refl rfl
 ·rw [hb3]; first | replace hR := cond_t hb3 hR | (try simp only [hb3, bb] at hR)
  iterate 6 refine RD.skip rfl rfl ?_
  refine RD.q (.bool true) ?_
  refine RD.done rfl ?_
  refine WK.condT rfl ?_
  refine WK.exit ?_
  refine QF.exit (hK2 _ ?_)
  refine WK.regx mixed ?_
  refine GX.q (.int .i64 1) ?_
  refine GX.m rfl ?_
  refine GX.done ?_
  refine WK.nil (QF.normal (WU.go ?_))
  refine WK.sr mixed ?_
  refine GX.q (.bool true) ?_
  refine GX.done ?_
  refine WK.seq ?_
  refine WK.condT rfl ?_
  refine WK.skip ?_
  refine WK.seq ?_
  refine WK.blockK (fun _ hK21 => ?_)
  refine WK.sr mixed ?_
  refine GX.q (.ptr 1 2) ?_
  refine GX.q (.agg [.str (bstr [108, 101]), .ptr 0 5]) ?_
  refine GX.step (v' := .ptr 3 0) (heap' := [(0, .box (TRule.c x0)), (1, .box [.str (bstr [103, 101]), .ptr 0 4, .str (bstr [108, 101]), .ptr 0 5]), (2, .box [.str (bstr [103, 101]), .ptr 0 4]), (3, .box [.str (bstr []), .nilp])]) (next' := 4) rfl rfl rfl rfl rfl rfl rfl ?_
  refine GX.step0 (heap' := [(0, .box (TRule.c x0)), (1, .box [.str (bstr [103, 101]), .ptr 0 4, .str (bstr [108, 101]), .ptr 0 5]), (2, .box [.str (bstr [103, 101]), .ptr 0 4]), (3, .box [.str (bstr [108, 101]), .ptr 0 5])]) (next' := 4) rfl rfl rfl rfl rfl ?_
  refine GX.done ?_
  iterate 2 refine WK.seq ?_
  refine WK.drawn mixed ?_
  refine RD.m rfl ?_
  refine RD.pure (v' := .int .i64 (l1.length : Int)) rfl rfl rfl rfl (len_map _ _) ?_
  refine RD.q (.bool (decide ((l1.length : Int) < 2))) ?_
  refine RD.m rfl ?_
  rw [hb3]
  iterate 6 refine RD.skip rfl rfl ?_
  refine RD.q (.bool true) ?_
  refine RD.done rfl ?_
  refine WK.condT rfl ?_
  refine WK.exit ?_
  refine QF.exit (hK21 _ ?_)
  refine WK.regx mixed ?_
  refine GX.q (.int .i64 2) ?_
  refine GX.m rfl ?_
  refine GX.done ?_
  refine WK.nil (QF.normal (WU.go ?_))
  refine WK.sr mixed ?_
  refine GX.q (.bool false) ?_
  refine GX.done ?_
  refine WK.seq ?_
  refine WK.condF rfl ?_
  refine WK.exit ?_
  refine QF.exit ?_
  refine WK.sr mixed ?_
  refine GX.m rfl ?_
  refine GX.pure (v' := .int .i64 (l1.length : Int)) rfl rfl rfl rfl (len_map _ _) ?_
  refine GX.q (.bool (decide ((l1.length : Int) = 0))) ?_
  refine GX.m rfl ?_
  refine GX.done ?_
  refine WK.ret ?_
  obtain rfl := Option.some.inj hR
  exact RetQ.ret [0] [] (.inr rfl) rfl rfl rfl rfl rfl .refl rfl

theorem f8_ok (s0 : ByteArray) (R : TRule × Int) (hR : F8_plist_Parse s0 = some R) : FnOk Tryz.prog 8 [.str s0] [] 0 (.tup [.agg (TRule.c R.1), .int .i64 R.2]) [] 0 := by
 refine FnOk.wk i8 rfl rfl ?_
 unfold F8_plist_Parse at hR
 try dsimp only at hR
 change WK _ _ _ [ac8] _ ⟨[(0, .str s0)], [], 0⟩
 unfold ac8
 refine WK.sr mixed ?_
 refine GX.step (v' := .ptr 0 0) (heap' := [(0, .box [.int .i64 0, .bool false, .int .u32 0, .int .i64 0, .int .i64 0, .int .i64 0])]) (next' := 1) rfl rfl rfl rfl rfl rfl rfl ?_
 refine GX.m rfl ?_
 refine GX.done ?_
 refine WK.sr mixed ?_
 refine GX.m rfl ?_
 generalize hc9 : splitO s0 (bstr [32]) = c9 at hR
 rcases c9 with _ | c9
 ·try dsimp only at hR
  cases hR
 try dsimp only at hR
 try dsimp only at hR
 refine GX.callp (r := .ro 1 (c9.map c_str)) rfl rfl rfl (f30_ok s0 (bstr [32]) _ hc9) rfl rfl ?_
 refine GX.m rfl ?_
 refine GX.done ?_
 refine WK.seq ?_
 refine WK.sr mixed ?_
 refine GX.m rfl ?_
 refine GX.pure (v' := .int .i64 (c9.length : Int)) rfl rfl rfl rfl (len_map _ _) ?_
 refine GX.q (.bool (decide ((c9.length : Int) < 3))) ?_
 refine GX.m rfl ?_
 rcases bool_two (decide ((c9.length : Int) < 3)) with hb1 | hb1
 ·rw [hb1]; first | replace hR := cond_f hb1 hR | (try simp only [hb1, bb] at hR)
  refine GX.m rfl ?_
  generalize hx901 : getI c9 0 = x901 at hR
  rcases x901 with _ | x901
  ·try dsimp only at hR
   cases hR
  try dsimp only at hR
  obtain ⟨hx9010, hx901j, hx901l, hx901⟩ := getI_some hx901
  refine GX.idxT (c := c_str) (x := x901) rfl rfl rfl hx9010 hx901 ?_
  refine GX.q (.str x901) ?_
  generalize hc17 : F31_plist_number x901 = c17 at hR
  rcases c17 with _ | c17
  ·try dsimp only at hR
   cases hR
  try dsimp only at hR
  try dsimp only at hR
  refine GX.callp (r := .int .i64 c17) rfl rfl rfl (f31_ok x901 _ hc17) rfl rfl ?_
  iterate 2 refine GX.q (.bool (decide (c17 = 0))) ?_
  refine GX.m rfl ?_
  rcases bool_two (decide (c17 = 0)) with hb3 | hb3
  ·rw [hb3]; first | replace hR := cond_f hb3 hR | (try simp only [hb3, bb] at hR)
   refine GX.m rfl ?_
   generalize hx903 : getI c9 1 = x903 at hR
   rcases x903 with _ | x903
   ·try dsimp only at hR
    cases hR
   try dsimp only at hR
   obtain ⟨hx9030, hx903j, hx903l, hx903⟩ := getI_some hx903
   refine GX.idxT (c := c_str) (x := x903) rfl rfl rfl hx9030 hx903 ?_
   refine GX.q (.str x903) ?_
   refine GX.q (.bool (!(x903.toList == (bstr [112, 101, 114, 109, 105, 116]).toList))) ?_
   refine GX.m rfl ?_
   rcases bool_two (x903.toList == (bstr [112, 101, 114, 109, 105, 116]).toList) with hb5 | hb5
   ·rw [hb5]; first | replace hR := cond_f hb5 hR | (try simp only [hb5, bb] at hR)
    refine GX.m rfl ?_
    refine GX.idxT (c := c_str) (x := x903) rfl rfl rfl hx9030 hx903 ?_
    refine GX.q (.str x903) ?_
    iterate 3 refine GX.q (.bool (!(x903.toList == (bstr [100, 101, 110, 121]).toList))) ?_
    refine GX.done ?_
    rcases bool_two (x903.toList == (bstr [100, 101, 110, 121]).toList) with hb6 | hb6
    ·rw [hb6]; first | replace hR := cond_f hb6 hR | (try simp only [hb6, bb] at hR)
     refine WK.condT rfl ?_
     refine WK.sr mixed ?_
     refine GX.q (.agg [.int .i64 0, .bool false, .int .u32 0, .int .i64 0, .int .i64 0, .int .i64 0]) ?_
     refine GX.step0 (heap' := [(0, .box [.int .i64 0, .bool false, .int .u32 0, .int .i64 0, .int .i64 0, .int .i64 0])]) (next' := 1) rfl rfl rfl rfl rfl ?_
     refine GX.m rfl ?_
     refine GX.done ?_
     refine WK.ret ?_
     obtain rfl := Option.some.inj hR
     exact RetQ.fr [] (.inr rfl) rfl rfl rfl rfl
    ·rw [hb6]; first | replace hR := cond_t hb6 hR | (try simp only [hb6, bb] at hR)
     refine WK.condF rfl ?_
     refine WK.skip ?_
     refine WK.sr mixed ?_
     refine GX.m rfl ?_
     generalize hx906 : getI c9 2 = x906 at hR
     rcases x906 with _ | x906
     ·try dsimp only at hR
      cases hR
     try dsimp only at hR
     obtain ⟨hx9060, hx906j, hx906l, hx906⟩ := getI_some hx906
     refine GX.idxT (c := c_str) (x := x906) rfl rfl rfl hx9060 hx906 ?_
     refine GX.q (.str x906) ?_
     generalize hc37 : F32_addr_Parse x906 = c37 at hR
     rcases c37 with _ | c37
     ·try dsimp only at hR
      cases hR
     try dsimp only at hR
     obtain ⟨c37a, c37b⟩ := c37; try dsimp only at hR
     refine GX.callp (r := .tup [.agg [.int .u32 c37a.A, .int .i64 c37a.N], .int .i64 c37b]) rfl rfl rfl (f32_ok x906 _ hc37) rfl rfl ?_
     refine GX.m rfl ?_
     refine GX.q (.agg [.int .u32 c37a.A, .int .i64 c37a.N]) ?_
     refine GX.q (.int .i64 c37b) ?_
     refine GX.step (v' := .ptr 1 0) (heap' := [(0, .box [.int .i64 0, .bool false, .int .u32 0, .int .i64 0, .int .i64 0, .int .i64 0]), (1, .box [.int .u32 0, .int .i64 0])]) (next' := 2) rfl rfl rfl rfl rfl rfl rfl ?_
     refine GX.step0 (heap' := [(0, .box [.int .i64 0, .bool false, .int .u32 0, .int .i64 0, .int .i64 0, .int .i64 0]), (1, .box (TPrefix.c c37a))]) (next' := 2) rfl rfl rfl rfl rfl ?_
     refine GX.m rfl ?_
     refine GX.done ?_
     refine WK.seq ?_
     refine WK.drawn mixed ?_
     refine RD.m rfl ?_
     refine RD.idxT (c := c_str) (x := x901) rfl rfl rfl hx9010 hx901 ?_
     refine RD.q (.str x901) ?_
     refine RD.callp (r := .int .i64 c17) rfl rfl rfl (f31_ok x901 _ hc17) rfl rfl ?_
     refine RD.m rfl ?_
     refine RD.idxT (c := c_str) (x := x903) rfl rfl rfl hx9030 hx903 ?_
     refine RD.q (.str x903) ?_
     refine RD.q (.bool (x903.toList == (bstr [112, 101, 114, 109, 105, 116]).toList)) ?_
     refine RD.q (.agg (TPrefix.c c37a)) ?_
     refine RD.q (.agg [.int .i64 c17, .bool (x903.toList == (bstr [112, 101, 114, 109, 105, 116]).toList), .int .u32 c37a.A, .int .i64 c37a.N, .int .i64 0, .int .i64 0]) ?_
     refine RD.step (v' := .ptr 2 0) (heap' := [(0, .box [.int .i64 0, .bool false, .int .u32 0, .int .i64 0, .int .i64 0, .int .i64 0]), (1, .box (TPrefix.c c37a)), (2, .box [.int .i64 0, .bool false, .int .u32 0, .int .i64 0, .int .i64 0, .int .i64 0])]) (next' := 3) rfl rfl rfl rfl rfl rfl rfl ?_
     refine RD.step0 (heap' := [(0, .box [.int .i64 0, .bool false, .int .u32 0, .int .i64 0, .int .i64 0, .int .i64 0]), (1, .box (TPrefix.c c37a)), (2, .box [.int .i64 c17, .bool (x903.toList == (bstr [112, 101, 114, 109, 105, 116]).toList), .int .u32 c37a.A, .int .i64 c37a.N, .int .i64 0, .int .i64 0])]) (next' := 3) rfl rfl rfl rfl rfl ?_
     refine RD.done rfl ?_
     refine WK.seq ?_
     refine WK.blockK (fun _ hK8 => ?_)
     refine WK.sr mixed ?_
     refine GX.m rfl ?_
     refine GX.q (.bool (decide (c37b = 3))) ?_
     refine GX.m rfl ?_
     rcases bool_two (decide (c37b = 3)) with hb9 | hb9
     ·rw [hb9]; first | replace hR := cond_f hb9 hR | (try simp only [hb9, bb] at hR)
      refine GX.m rfl ?_
      rcases bool_two (decide ((3 : Int) ≤ (c9.length : Int))) with hg10 | hg10
      ·simp only [hg10, bb] at hR
       try dsimp only at hR
       cases hR
      simp only [hg10, bb] at hR
      have hg10_ := of_decide_eq_true hg10
      refine GX.sliceLo (c := c_str) (M := (c9.drop 3)) rfl rfl rfl (by omega) (by omega) rfl ?_
      generalize hc56 : F33_plist_Rule_limits (⟨c17, (x903.toList == (bstr [112, 101, 114, 109, 105, 116]).toList), c37a, 0, 0⟩ : TRule) (c9.drop 3) = c56 at hR
      rcases c56 with _ | c56
      ·try dsimp only at hR
       cases hR
      try dsimp only at hR
      obtain ⟨c56a, c56b⟩ := c56; try dsimp only at hR
      refine GX.callx (r' := .bool c56a) (heap' := [(0, .box [.int .i64 0, .bool false, .int .u32 0, .int .i64 0, .int .i64 0, .int .i64 0]), (1, .box (TPrefix.c c37a)), (2, .box (TRule.c c56b))]) (next' := 3) [2] [] rfl rfl rfl rfl rfl rfl (f33_ok (⟨c17, (x903.toList == (bstr [112, 101, 114, 109, 105, 116]).toList), c37a, 0, 0⟩ : TRule) (c9.drop 3) _ hc56) (.inl rfl) rfl rfl rfl ?_
      iterate 2 refine GX.q (.bool (!c56a)) ?_
      refine GX.m rfl ?_
      refine GX.done ?_
      rcases bool_two (c56a) with hb12 | hb12
      ·rw [hb12]; first | replace hR := cond_f hb12 hR | (try simp only [hb12, bb] at hR)
       refine WK.condT rfl ?_
       refine WK.sr mixed ?_
       refine GX.q (.agg [.int .i64 0, .bool false, .int .u32 0, .int .i64 0, .int .i64 0, .int .i64 0]) ?_
       refine GX.step0 (heap' := [(0, .box [.int .i64 0, .bool false, .int .u32 0, .int .i64 0, .int .i64 0, .int .i64 0]), (1, .box (TPrefix.c c37a)), (2, .box (TRule.c c56b))]) (next' := 3) rfl rfl rfl rfl rfl ?_
       refine GX.m rfl ?_
       refine GX.done ?_
       refine WK.ret ?_
       refine QF.ret ?_
       obtain rfl := Option.some.inj hR
       exact RetQ.fr [] (.inr rfl) rfl rfl rfl rfl
      ·rw [hb12]; first | replace hR := cond_t hb12 hR | (try simp only [hb12, bb] at hR)
       refine WK.condF rfl ?_
       refine WK.sr mixed ?_
       refine GX.m rfl ?_
       refine GX.q (.bool (!decide (c37b = 0))) ?_
       refine GX.m rfl ?_
       rcases bool_two (decide (c37b = 0)) with hb13 | hb13
       ·rw [hb13]; first | replace hR := cond_f hb13 hR | (try simp only [hb13, bb] at hR)
        iterate 3 refine GX.skip rfl rfl ?_
        refine GX.q (.bool true) ?_
        refine GX.m rfl ?_
        refine GX.done ?_
        refine WK.condT rfl ?_
        refine WK.sr mixed ?_
        refine GX.q (.agg [.int .i64 0, .bool false, .int .u32 0, .int .i64 0, .int .i64 0, .int .i64 0]) ?_
        refine GX.step0 (heap' := [(0, .box [.int .i64 0, .bool false, .int .u32 0, .int .i64 0, .int .i64 0, .int .i64 0]), (1, .box (TPrefix.c c37a)), (2, .box (TRule.c c56b))]) (next' := 3) rfl rfl rfl rfl rfl ?_
        refine GX.m rfl ?_
        refine GX.done ?_
        refine WK.ret ?_
        refine QF.ret ?_
        obtain rfl := Option.some.inj hR
        exact RetQ.fr [] (.inr rfl) rfl rfl rfl rfl
       ·rw [hb13]; first | replace hR := cond_t hb13 hR | (try simp only [hb13, bb] at hR)
        refine GX.q (.agg (TRule.c c56b)) ?_
        generalize hc65 : F10_plist_May c56b = c65 at hR
        try dsimp only at hR
        refine GX.callp (r := .bool c65) rfl rfl rfl (f10_ok c56b _ hc65) rfl rfl ?_
        iterate 2 refine GX.q (.bool (!c65)) ?_
        refine GX.m rfl ?_
        refine GX.done ?_
        rcases bool_two (c65) with hb14 | hb14
        ·rw [hb14]; first | replace hR := cond_f hb14 hR | (try simp only [hb14, bb] at hR)
         refine WK.condT rfl ?_
         refine WK.sr mixed ?_
         refine GX.q (.agg [.int .i64 0, .bool false, .int .u32 0, .int .i64 0, .int .i64 0, .int .i64 0]) ?_
         refine GX.step0 (heap' := [(0, .box [.int .i64 0, .bool false, .int .u32 0, .int .i64 0, .int .i64 0, .int .i64 0]), (1, .box (TPrefix.c c37a)), (2, .box (TRule.c c56b))]) (next' := 3) rfl rfl rfl rfl rfl ?_
         refine GX.m rfl ?_
         refine GX.done ?_
         refine WK.ret ?_
         refine QF.ret ?_
         obtain rfl := Option.some.inj hR
         exact RetQ.fr [] (.inr rfl) rfl rfl rfl rfl
        ·rw [hb14]; first | replace hR := cond_t hb14 hR | (try simp only [hb14, bb] at hR)
         refine WK.condF rfl ?_
         refine WK.skip ?_
         refine WK.nil (QF.normal (hK8 _ ?_))
         refine WK.sr mixed ?_
         refine GX.q (.agg (TRule.c c56b)) ?_
         refine GX.step0 (heap' := [(0, .box (TRule.c c56b)), (1, .box (TPrefix.c c37a)), (2, .box (TRule.c c56b))]) (next' := 3) rfl rfl rfl rfl rfl ?_
         refine GX.m rfl ?_
         refine GX.done ?_
         refine WK.ret ?_
         obtain rfl := Option.some.inj hR
         exact RetQ.fr [] (.inr rfl) rfl rfl rfl rfl
     ·rw [hb9]; first | replace hR := cond_t hb9 hR | (try simp only [hb9, bb] at hR)
      iterate 4 refine GX.skip rfl rfl ?_
      refine GX.q (.bool true) ?_
      refine GX.m rfl ?_
      refine GX.done ?_
      refine WK.condT rfl ?_
      refine WK.sr mixed ?_
      refine GX.q (.agg [.int .i64 0, .bool false, .int .u32 0, .int .i64 0, .int .i64 0, .int .i64 0]) ?_
      refine GX.step0 (heap' := [(0, .box [.int .i64 0, .bool false, .int .u32 0, .int .i64 0, .int .i64 0, .int .i64 0]), (1, .box (TPrefix.c c37a)), (2, .box [.int .i64 c17, .bool (x903.toList == (bstr [112, 101, 114, 109, 105, 116]).toList), .int .u32 c37a.A, .int .i64 c37a.N, .int .i64 0, .int .i64 0])]) (next' := 3) rfl rfl rfl rfl rfl ?_
      refine GX.m rfl ?_
      refine GX.done ?_
      refine WK.ret ?_
      refine QF.ret ?_
      obtain rfl := Option.some.inj hR
      exact RetQ.fr [] (.inr rfl) rfl rfl rfl rfl
   ·rw [hb5]; first | replace hR := cond_t hb5 hR | (try simp only [hb5, bb] at hR)
    iterate 4 refine GX.skip rfl rfl ?_
    iterate 2 refine GX.q (.bool false) ?_
    refine GX.done ?_
    refine WK.condF rfl ?_
    refine WK.skip ?_
    refine WK.sr mixed ?_
    refine GX.m rfl ?_
    generalize hx914 : getI c9 2 = x914 at hR
    rcases x914 with _ | x914
    ·try dsimp only at hR
     cases hR
    try dsimp only at hR
    obtain ⟨hx9140, hx914j, hx914l, hx914⟩ := getI_some hx914
    refine GX.idxT (c := c_str) (x := x914) rfl rfl rfl hx9140 hx914 ?_
    refine GX.q (.str x914) ?_
    generalize hc37 : F32_addr_Parse x914 = c37 at hR
    rcases c37 with _ | c37
    ·try dsimp only at hR
     cases hR
    try dsimp only at hR
    obtain ⟨c37a, c37b⟩ := c37; try dsimp only at hR
    refine GX.callp (r := .tup [.agg [.int .u32 c37a.A, .int .i64 c37a.N], .int .i64 c37b]) rfl rfl rfl (f32_ok x914 _ hc37) rfl rfl ?_
    refine GX.m rfl ?_
    refine GX.q (.agg [.int .u32 c37a.A, .int .i64 c37a.N]) ?_
    refine GX.q (.int .i64 c37b) ?_
    refine GX.step (v' := .ptr 1 0) (heap' := [(0, .box [.int .i64 0, .bool false, .int .u32 0, .int .i64 0, .int .i64 0, .int .i64 0]), (1, .box [.int .u32 0, .int .i64 0])]) (next' := 2) rfl rfl rfl rfl rfl rfl rfl ?_
    refine GX.step0 (heap' := [(0, .box [.int .i64 0, .bool false, .int .u32 0, .int .i64 0, .int .i64 0, .int .i64 0]), (1, .box (TPrefix.c c37a))]) (next' := 2) rfl rfl rfl rfl rfl ?_
    refine GX.m rfl ?_
    refine GX.done ?_
    refine WK.seq ?_
    refine WK.drawn mixed ?_
    refine RD.m rfl ?_
    refine RD.idxT (c := c_str) (x := x901) rfl rfl rfl hx9010 hx901 ?_
    refine RD.q (.str x901) ?_
    refine RD.callp (r := .int .i64 c17) rfl rfl rfl (f31_ok x901 _ hc17) rfl rfl ?_
    refine RD.m rfl ?_
    refine RD.idxT (c := c_str) (x := x903) rfl rfl rfl hx9030 hx903 ?_
    refine RD.q (.str x903) ?_
    refine RD.q (.bool (x903.toList == (bstr [112, 101, 114, 109, 105, 116]).toList)) ?_
    refine RD.q (.agg (TPrefix.c c37a)) ?_
    refine RD.q (.agg [.int .i64 c17, .bool (x903.toList == (bstr [112, 101, 114, 109, 105, 116]).toList), .int .u32 c37a.A, .int .i64 c37a.N, .int .i64 0, .int .i64 0]) ?_
    refine RD.step (v' := .ptr 2 0) (heap' := [(0, .box [.int .i64 0, .bool false, .int .u32 0, .int .i64 0, .int .i64 0, .int .i64 0]), (1, .box (TPrefix.c c37a)), (2, .box [.int .i64 0, .bool false, .int .u32 0, .int .i64 0, .int .i64 0, .int .i64 0])]) (next' := 3) rfl rfl rfl rfl rfl rfl rfl ?_
    refine RD.step0 (heap' := [(0, .box [.int .i64 0, .bool false, .int .u32 0, .int .i64 0, .int .i64 0, .int .i64 0]), (1, .box (TPrefix.c c37a)), (2, .box [.int .i64 c17, .bool (x903.toList == (bstr [112, 101, 114, 109, 105, 116]).toList), .int .u32 c37a.A, .int .i64 c37a.N, .int .i64 0, .int .i64 0])]) (next' := 3) rfl rfl rfl rfl rfl ?_
    refine RD.done rfl ?_
    refine WK.seq ?_
    refine WK.blockK (fun _ hK16 => ?_)
    refine WK.sr mixed ?_
    refine GX.m rfl ?_
    refine GX.q (.bool (decide (c37b = 3))) ?_
    refine GX.m rfl ?_
    rcases bool_two (decide (c37b = 3)) with hb17 | hb17
    ·rw [hb17]; first | replace hR := cond_f hb17 hR | (try simp only [hb17, bb] at hR)
     refine GX.m rfl ?_
     rcases bool_two (decide ((3 : Int) ≤ (c9.length : Int))) with hg18 | hg18
     ·simp only [hg18, bb] at hR
      try dsimp only at hR
      cases hR
     simp only [hg18, bb] at hR
     have hg18_ := of_decide_eq_true hg18
     refine GX.sliceLo (c := c_str) (M := (c9.drop 3)) rfl rfl rfl (by omega) (by omega) rfl ?_
     generalize hc56 : F33_plist_Rule_limits (⟨c17, (x903.toList == (bstr [112, 101, 114, 109, 105, 116]).toList), c37a, 0, 0⟩ : TRule) (c9.drop 3) = c56 at hR
     rcases c56 with _ | c56
     ·try dsimp only at hR
      cases hR
     try dsimp only at hR
     obtain ⟨c56a, c56b⟩ := c56; try dsimp only at hR
     refine GX.callx (r' := .bool c56a) (heap' := [(0, .box [.int .i64 0, .bool false, .int .u32 0, .int .i64 0, .int .i64 0, .int .i64 0]), (1, .box (TPrefix.c c37a)), (2, .box (TRule.c c56b))]) (next' := 3) [2] [] rfl rfl rfl rfl rfl rfl (f33_ok (⟨c17, (x903.toList == (bstr [112, 101, 114, 109, 105, 116]).toList), c37a, 0, 0⟩ : TRule) (c9.drop 3) _ hc56) (.inl rfl) rfl rfl rfl ?_
     iterate 2 refine GX.q (.bool (!c56a)) ?_
     refine GX.m rfl ?_
     refine GX.done ?_
     rcases bool_two (c56a) with hb20 | hb20
     ·rw [hb20]; first | replace hR := cond_f hb20 hR | (try simp only [hb20, bb] at hR)
      refine WK.condT rfl ?_
      refine WK.sr mixed ?_
      refine GX.q (.agg [.int .i64 0, .bool false, .int .u32 0, .int .i64 0, .int .i64 0, .int .i64 0]) ?_
      refine GX.step0 (heap' := [(0, .box [.int .i64 0, .bool false, .int .u32 0, .int .i64 0, .int .i64 0, .int .i64 0]), (1, .box (TPrefix.c c37a)), (2, .box (TRule.c c56b))]) (next' := 3) rfl rfl rfl rfl rfl ?_
      refine GX.m rfl ?_
      refine GX.done ?_
      refine WK.ret ?_
      refine QF.ret ?_
      obtain rfl := Option.some.inj hR
      exact RetQ.fr [] (.inr rfl) rfl rfl rfl rfl
     ·rw [hb20]; first | replace hR := cond_t hb20 hR | (try simp only [hb20, bb] at hR)
      refine WK.condF rfl ?_
      refine WK.sr mixed ?_
      refine GX.m rfl ?_
      refine GX.q (.bool (!decide (c37b = 0))) ?_
      refine GX.m rfl ?_
      rcases bool_two (decide (c37b = 0)) with hb21 | hb21
      ·rw [hb21]; first | replace hR := cond_f hb21 hR | (try simp only [hb21, bb] at hR)
       iterate 3 refine GX.skip rfl rfl ?_
       refine GX.q (.bool true) ?_
       refine GX.m rfl ?_
       refine GX.done ?_
       refine WK.condT rfl ?_
       refine WK.sr mixed ?_
       refine GX.q (.agg [.int .i64 0, .bool false, .int .u32 0, .int .i64 0, .int .i64 0, .int .i64 0]) ?_
       refine GX.step0 (heap' := [(0, .box [.int .i64 0, .bool false, .int .u32 0, .int .i64 0, .int .i64 0, .int .i64 0]), (1, .box (TPrefix.c c37a)), (2, .box (TRule.c c56b))]) (next' := 3) rfl rfl rfl rfl rfl ?_
       refine GX.m rfl ?_
       refine GX.done ?_
       refine WK.ret ?_
       refine QF.ret ?_
       obtain rfl := Option.some.inj hR
       exact RetQ.fr [] (.inr rfl) rfl rfl rfl rfl
      ·rw [hb21]; first | replace hR := cond_t hb21 hR | (try simp only [hb21, bb] at hR)
       refine GX.q (.agg (TRule.c c56b)) ?_
       generalize hc65 : F10_plist_May c56b = c65 at hR
       try dsimp only at hR
       refine GX.callp (r := .bool c65) rfl rfl rfl (f10_ok c56b _ hc65) rfl rfl ?_
       iterate 2 refine GX.q (.bool (!c65)) ?_
       refine GX.m rfl ?_
       refine GX.done ?_
       rcases bool_two (c65) with hb22 | hb22
       ·rw [hb22]; first | replace hR := cond_f hb22 hR | (try simp only [hb22, bb] at hR)
        refine WK.condT rfl ?_
        refine WK.sr mixed ?_
        refine GX.q (.agg [.int .i64 0, .bool false, .int .u32 0, .int .i64 0, .int .i64 0, .int .i64 0]) ?_
        refine GX.step0 (heap' := [(0, .box [.int .i64 0, .bool false, .int .u32 0, .int .i64 0, .int .i64 0, .int .i64 0]), (1, .box (TPrefix.c c37a)), (2, .box (TRule.c c56b))]) (next' := 3) rfl rfl rfl rfl rfl ?_
        refine GX.m rfl ?_
        refine GX.done ?_
        refine WK.ret ?_
        refine QF.ret ?_
        obtain rfl := Option.some.inj hR
        exact RetQ.fr [] (.inr rfl) rfl rfl rfl rfl
       ·rw [hb22]; first | replace hR := cond_t hb22 hR | (try simp only [hb22, bb] at hR)
        refine WK.condF rfl ?_
        refine WK.skip ?_
        refine WK.nil (QF.normal (hK16 _ ?_))
        refine WK.sr mixed ?_
        refine GX.q (.agg (TRule.c c56b)) ?_
        refine GX.step0 (heap' := [(0, .box (TRule.c c56b)), (1, .box (TPrefix.c c37a)), (2, .box (TRule.c c56b))]) (next' := 3) rfl rfl rfl rfl rfl ?_
        refine GX.m rfl ?_
        refine GX.done ?_
        refine WK.ret ?_
        obtain rfl := Option.some.inj hR
        exact RetQ.fr [] (.inr rfl) rfl rfl rfl rfl
    ·rw [hb17]; first | replace hR := cond_t hb17 hR | (try simp only [hb17, bb] at hR)
     iterate 4 refine GX.skip rfl rfl ?_
     refine GX.q (.bool true) ?_
     refine GX.m rfl ?_
     refine GX.done ?_
     refine WK.condT rfl ?_
     refine WK.sr mixed ?_
     refine GX.q (.agg [.int .i64 0, .bool false, .int .u32 0, .int .i64 0, .int .i64 0, .int .i64 0]) ?_
     refine GX.step0 (heap' := [(0, .box [.int .i64 0, .bool false, .int .u32 0, .int .i64 0, .int .i64 0, .int .i64 0]), (1, .box (TPrefix.c c37a)), (2, .box [.int .i64 c17, .bool (x903.toList == (bstr [112, 101, 114, 109, 105, 116]).toList), .int .u32 c37a.A, .int .i64 c37a.N, .int .i64 0, .int .i64 0])]) (next' := 3) rfl rfl rfl rfl rfl ?_
     refine GX.m rfl ?_
     refine GX.done ?_
     refine WK.ret ?_
     refine QF.ret ?_
     obtain rfl := Option.some.inj hR
     exact RetQ.fr [] (.inr rfl) rfl rfl rfl rfl
  ·rw [hb3]; first | replace hR := cond_t hb3 hR | (try simp only [hb3, bb] at hR)
   iterate 10 refine GX.skip rfl rfl ?_
   refine GX.q (.bool true) ?_
   refine GX.done ?_
   refine WK.condT rfl ?_
   refine WK.sr mixed ?_
   refine GX.q (.agg [.int .i64 0, .bool false, .int .u32 0, .int .i64 0, .int .i64 0, .int .i64 0]) ?_
   refine GX.step0 (heap' := [(0, .box [.int .i64 0, .bool false, .int .u32 0, .int .i64 0, .int .i64 0, .int .i64 0])]) (next' := 1) rfl rfl rfl rfl rfl ?_
   refine GX.m rfl ?_
   refine GX.done ?_
   refine WK.ret ?_
   obtain rfl := Option.some.inj hR
   exact RetQ.fr [] (.inr rfl) rfl rfl rfl rfl
 ·rw [hb1]; first | replace hR := cond_t hb1 hR | (try simp only [hb1, bb] at hR)
  iterate 5 refine GX.skip rfl rfl ?_
  refine GX.q (.bool true) ?_
  refine GX.m rfl ?_
  iterate 10 refine GX.skip rfl rfl ?_
  refine GX.q (.bool true) ?_
  refine GX.done ?_
  refine WK.condT rfl ?_
  refine WK.sr mixed ?_
  refine GX.q (.agg [.int .i64 0, .bool false, .int .u32 0, .int .i64 0, .int .i64 0, .int .i64 0]) ?_
  refine GX.step0 (heap' := [(0, .box [.int .i64 0, .bool false, .int .u32 0, .int .i64 0, .int .i64 0, .int .i64 0])]) (next' := 1) rfl rfl rfl rfl rfl ?_
  refine GX.m rfl ?_
  refine GX.done ?_
  refine WK.ret ?_
  obtain rfl := Option.some.inj hR
  exact RetQ.fr [] (.inr rfl) rfl rfl rfl rfl

theorem f35_ok (p0 : TPrefix) (R : ByteArray) (hR : F35_addr_Text p0 = some R) : FnOk Tryz.prog 35 [.agg (TPrefix.c p0)] [] 0 (.str R) [] 0 := by
 refine FnOk.wk i35 rfl rfl ?_
 unfold F35_addr_Text at hR
 try dsimp only at hR
 change WK _ _ _ [ac35] _ ⟨[(0, .agg (TPrefix.c p0))], [], 0⟩
 unfold ac35
 refine WK.sr mixed ?_
 refine GX.step (v' := .ptr 0 0) (heap' := [(0, .box (TPrefix.c p0))]) (next' := 1) rfl rfl rfl rfl rfl rfl rfl ?_
 refine GX.m rfl ?_
 refine GX.done ?_
 refine WK.sr mixed ?_
 refine GX.m rfl ?_
 refine GX.done ?_
 refine WK.seq ?_
 refine WK.sr mixed ?_
 refine GX.m rfl ?_
 refine GX.done ?_
 refine WK.unroll 6 (WU.go ?_)
 refine WK.seq ?_
 refine WK.sr mixed ?_
 refine GX.m rfl ?_
 refine GX.q (.bool true) ?_
 refine GX.done ?_
 refine WK.condT rfl ?_
 refine WK.skip ?_
 refine WK.seq ?_
 refine WK.blockK (fun _ hK2 => ?_)
 refine WK.regx mixed ?_
 refine GX.m rfl ?_
 refine GX.q (.ptr 0 0) ?_
 refine GX.q (.int .u32 p0.A) ?_
 refine GX.m rfl ?_
 refine GX.q (.int .u32 (Int.fdiv p0.A (2 ^ 24))) ?_
 refine GX.q (.int .u32 (bit_and .u32 (Int.fdiv p0.A (2 ^ 24)) 255)) ?_
 refine GX.q (.int .i64 (IntKind.i64.wrap (bit_and .u32 (Int.fdiv p0.A (2 ^ 24)) 255))) ?_
 generalize hc16 : itoaO (IntKind.i64.wrap (bit_and .u32 (Int.fdiv p0.A (2 ^ 24)) 255)) = c16 at hR
 rcases c16 with _ | c16
 ·try dsimp only at hR
  cases hR
 try dsimp only at hR
 try dsimp only at hR
 refine GX.callp (r := .str c16) rfl rfl rfl (f34_ok (IntKind.i64.wrap (bit_and .u32 (Int.fdiv p0.A (2 ^ 24)) 255)) _ hc16) rfl rfl ?_
 refine GX.step (v' := .own 1 1 0 (([c16] : List ByteArray)).length) (heap' := [(0, .box (TPrefix.c p0)), (1, .row 1 9 (([c16] : List ByteArray).map c_str))]) (next' := 2) rfl rfl rfl rfl rfl rfl rfl ?_
 refine GX.appnil (c := c_str) (X := ([c16] : List ByteArray)) (heap' := [(0, .box (TPrefix.c p0)), (1, .row 1 9 (([c16] : List ByteArray).map c_str)), (2, .row 1 9 (([c16] : List ByteArray).map c_str))]) (next' := 3) rfl rfl rfl (elems_own rfl) (by ((try simp only [List.length_append, List.length_cons, List.length_nil, List.length_map, decide_eq_true_eq, decide_eq_false_iff_not] at *) <;> omega)) (by ((try simp only [List.length_append, List.length_cons, List.length_nil, List.length_map, decide_eq_true_eq, decide_eq_false_iff_not] at *) <;> omega)) rfl rfl ?_
 refine GX.m rfl ?_
 refine GX.done ?_
 refine WK.nil (QF.normal (hK2 _ ?_))
 refine WK.regx mixed ?_
 refine GX.m rfl ?_
 refine GX.q (.int .i64 16) ?_
 refine GX.m rfl ?_
 refine GX.done ?_
 refine WK.nil (QF.normal (WU.go ?_))
 refine WK.seq ?_
 refine WK.sr mixed ?_
 refine GX.m rfl ?_
 refine GX.q (.bool true) ?_
 refine GX.done ?_
 refine WK.condT rfl ?_
 refine WK.skip ?_
 refine WK.seq ?_
 refine WK.blockK (fun _ hK3 => ?_)
 refine WK.regx mixed ?_
 refine GX.m rfl ?_
 refine GX.q (.ptr 0 0) ?_
 refine GX.q (.int .u32 p0.A) ?_
 refine GX.m rfl ?_
 refine GX.q (.int .u32 (Int.fdiv p0.A (2 ^ 16))) ?_
 refine GX.q (.int .u32 (bit_and .u32 (Int.fdiv p0.A (2 ^ 16)) 255)) ?_
 refine GX.q (.int .i64 (IntKind.i64.wrap (bit_and .u32 (Int.fdiv p0.A (2 ^ 16)) 255))) ?_
 generalize hc16x : itoaO (IntKind.i64.wrap (bit_and .u32 (Int.fdiv p0.A (2 ^ 16)) 255)) = c16x at hR
 rcases c16x with _ | c16x
 ·try dsimp only at hR
  cases hR
 try dsimp only at hR
 try dsimp only at hR
 refine GX.callp (r := .str c16x) rfl rfl rfl (f34_ok (IntKind.i64.wrap (bit_and .u32 (Int.fdiv p0.A (2 ^ 16)) 255)) _ hc16x) rfl rfl ?_
 refine GX.step (v' := .own 3 1 0 (([c16x] : List ByteArray)).length) (heap' := [(0, .box (TPrefix.c p0)), (1, .row 1 9 (([c16] : List ByteArray).map c_str)), (2, .row 1 9 (([c16] : List ByteArray).map c_str)), (3, .row 1 9 (([c16x] : List ByteArray).map c_str))]) (next' := 4) rfl rfl rfl rfl rfl rfl rfl ?_
 refine GX.appT (c := c_str) (L := ([c16] : List ByteArray)) (X := ([c16x] : List ByteArray)) (heap' := [(0, .box (TPrefix.c p0)), (1, .row 1 9 (([c16] : List ByteArray).map c_str)), (3, .row 1 9 (([c16x] : List ByteArray).map c_str)), (4, .row 1 9 ((([c16] : List ByteArray) ++ ([c16x] : List ByteArray)).map c_str))]) (next' := 5) rfl rfl rfl rfl (elems_own rfl) (by ((try simp only [List.length_append, List.length_cons, List.length_nil, List.length_map, decide_eq_true_eq, decide_eq_false_iff_not] at *) <;> omega)) (by ((try simp only [List.length_append, List.length_cons, List.length_nil, List.length_map, decide_eq_true_eq, decide_eq_false_iff_not] at *) <;> omega)) rfl rfl rfl rfl ?_
 refine GX.m rfl ?_
 refine GX.done ?_
 refine WK.nil (QF.normal (hK3 _ ?_))
 refine WK.regx mixed ?_
 refine GX.m rfl ?_
 refine GX.q (.int .i64 8) ?_
 refine GX.m rfl ?_
 refine GX.done ?_
 refine WK.nil (QF.normal (WU.go ?_))
 refine WK.seq ?_
 refine WK.sr mixed ?_
 refine GX.m rfl ?_
 refine GX.q (.bool true) ?_
 refine GX.done ?_
 refine WK.condT rfl ?_
 refine WK.skip ?_
 refine WK.seq ?_
 refine WK.blockK (fun _ hK4 => ?_)
 refine WK.regx mixed ?_
 refine GX.m rfl ?_
 refine GX.q (.ptr 0 0) ?_
 refine GX.q (.int .u32 p0.A) ?_
 refine GX.m rfl ?_
 refine GX.q (.int .u32 (Int.fdiv p0.A (2 ^ 8))) ?_
 refine GX.q (.int .u32 (bit_and .u32 (Int.fdiv p0.A (2 ^ 8)) 255)) ?_
 refine GX.q (.int .i64 (IntKind.i64.wrap (bit_and .u32 (Int.fdiv p0.A (2 ^ 8)) 255))) ?_
 generalize hc16xx : itoaO (IntKind.i64.wrap (bit_and .u32 (Int.fdiv p0.A (2 ^ 8)) 255)) = c16xx at hR
 rcases c16xx with _ | c16xx
 ·try dsimp only at hR
  cases hR
 try dsimp only at hR
 try dsimp only at hR
 refine GX.callp (r := .str c16xx) rfl rfl rfl (f34_ok (IntKind.i64.wrap (bit_and .u32 (Int.fdiv p0.A (2 ^ 8)) 255)) _ hc16xx) rfl rfl ?_
 refine GX.step (v' := .own 5 1 0 (([c16xx] : List ByteArray)).length) (heap' := [(0, .box (TPrefix.c p0)), (1, .row 1 9 (([c16] : List ByteArray).map c_str)), (3, .row 1 9 (([c16x] : List ByteArray).map c_str)), (4, .row 1 9 ((([c16] : List ByteArray) ++ ([c16x] : List ByteArray)).map c_str)), (5, .row 1 9 (([c16xx] : List ByteArray).map c_str))]) (next' := 6) rfl rfl rfl rfl rfl rfl rfl ?_
 rcases bool_two (decide ((([c16] : List ByteArray) ++ ([c16x] : List ByteArray)).length < 1099511627776)) with hg5 | hg5
 ·simp only [hg5, bb] at hR
  try dsimp only at hR
  cases hR
 simp only [hg5, bb] at hR
 have hg5_ := of_decide_eq_true hg5
 refine GX.appT (c := c_str) (L := (([c16] : List ByteArray) ++ ([c16x] : List ByteArray))) (X := ([c16xx] : List ByteArray)) (heap' := [(0, .box (TPrefix.c p0)), (1, .row 1 9 (([c16] : List ByteArray).map c_str)), (3, .row 1 9 (([c16x] : List ByteArray).map c_str)), (5, .row 1 9 (([c16xx] : List ByteArray).map c_str)), (6, .row 1 9 (((([c16] : List ByteArray) ++ ([c16x] : List ByteArray)) ++ ([c16xx] : List ByteArray)).map c_str))]) (next' := 7) rfl rfl rfl rfl (elems_own rfl) (by ((try simp only [List.length_append, List.length_cons, List.length_nil, List.length_map, decide_eq_true_eq, decide_eq_false_iff_not] at *) <;> omega)) (by ((try simp only [List.length_append, List.length_cons, List.length_nil, List.length_map, decide_eq_true_eq, decide_eq_false_iff_not] at *) <;> omega)) rfl rfl rfl rfl ?_
 refine GX.m rfl ?_
 refine GX.done ?_
 refine WK.nil (QF.normal (hK4 _ ?_))
 refine WK.regx mixed ?_
 refine GX.m rfl ?_
 refine GX.q (.int .i64 0) ?_
 refine GX.m rfl ?_
 refine GX.done ?_
 refine WK.nil (QF.normal (WU.go ?_))
 refine WK.seq ?_
 refine WK.sr mixed ?_
 refine GX.m rfl ?_
 refine GX.q (.bool true) ?_
 refine GX.done ?_
 refine WK.condT rfl ?_
 refine WK.skip ?_
 refine WK.seq ?_
 refine WK.blockK (fun _ hK6 => ?_)
 refine WK.regx mixed ?_
 refine GX.m rfl ?_
 refine GX.q (.ptr 0 0) ?_
 refine GX.q (.int .u32 p0.A) ?_
 refine GX.m rfl ?_
 refine GX.q (.int .u32 (Int.fdiv p0.A (2 ^ 0))) ?_
 refine GX.q (.int .u32 (bit_and .u32 (Int.fdiv p0.A (2 ^ 0)) 255)) ?_
 refine GX.q (.int .i64 (IntKind.i64.wrap (bit_and .u32 (Int.fdiv p0.A (2 ^ 0)) 255))) ?_
 generalize hc16xxx : itoaO (IntKind.i64.wrap (bit_and .u32 (Int.fdiv p0.A (2 ^ 0)) 255)) = c16xxx at hR
 rcases c16xxx with _ | c16xxx
 ·try dsimp only at hR
  cases hR
 try dsimp only at hR
 try dsimp only at hR
 refine GX.callp (r := .str c16xxx) rfl rfl rfl (f34_ok (IntKind.i64.wrap (bit_and .u32 (Int.fdiv p0.A (2 ^ 0)) 255)) _ hc16xxx) rfl rfl ?_
 refine GX.step (v' := .own 7 1 0 (([c16xxx] : List ByteArray)).length) (heap' := [(0, .box (TPrefix.c p0)), (1, .row 1 9 (([c16] : List ByteArray).map c_str)), (3, .row 1 9 (([c16x] : List ByteArray).map c_str)), (5, .row 1 9 (([c16xx] : List ByteArray).map c_str)), (6, .row 1 9 (((([c16] : List ByteArray) ++ ([c16x] : List ByteArray)) ++ ([c16xx] : List ByteArray)).map c_str)), (7, .row 1 9 (([c16xxx] : List ByteArray).map c_str))]) (next' := 8) rfl rfl rfl rfl rfl rfl rfl ?_
 rcases bool_two (decide (((([c16] : List ByteArray) ++ ([c16x] : List ByteArray)) ++ ([c16xx] : List ByteArray)).length < 1099511627776)) with hg7 | hg7
 ·simp only [hg7, bb] at hR
  try dsimp only at hR
  cases hR
 simp only [hg7, bb] at hR
 have hg7_ := of_decide_eq_true hg7
 refine GX.appT (c := c_str) (L := ((([c16] : List ByteArray) ++ ([c16x] : List ByteArray)) ++ ([c16xx] : List ByteArray))) (X := ([c16xxx] : List ByteArray)) (heap' := [(0, .box (TPrefix.c p0)), (1, .row 1 9 (([c16] : List ByteArray).map c_str)), (3, .row 1 9 (([c16x] : List ByteArray).map c_str)), (5, .row 1 9 (([c16xx] : List ByteArray).map c_str)), (7, .row 1 9 (([c16xxx] : List ByteArray).map c_str)), (8, .row 1 9 ((((([c16] : List ByteArray) ++ ([c16x] : List ByteArray)) ++ ([c16xx] : List ByteArray)) ++ ([c16xxx] : List ByteArray)).map c_str))]) (next' := 9) rfl rfl rfl rfl (elems_own rfl) (by ((try simp only [List.length_append, List.length_cons, List.length_nil, List.length_map, decide_eq_true_eq, decide_eq_false_iff_not] at *) <;> omega)) (by ((try simp only [List.length_append, List.length_cons, List.length_nil, List.length_map, decide_eq_true_eq, decide_eq_false_iff_not] at *) <;> omega)) rfl rfl rfl rfl ?_
 refine GX.m rfl ?_
 refine GX.done ?_
 refine WK.nil (QF.normal (hK6 _ ?_))
 refine WK.regx mixed ?_
 refine GX.m rfl ?_
 refine GX.q (.int .i64 (-8)) ?_
 refine GX.m rfl ?_
 refine GX.done ?_
 refine WK.nil (QF.normal (WU.go ?_))
 refine WK.seq ?_
 refine WK.sr mixed ?_
 refine GX.m rfl ?_
 refine GX.q (.bool false) ?_
 refine GX.done ?_
 refine WK.condF rfl ?_
 refine WK.exit ?_
 refine QF.exit ?_
 refine WK.seq ?_
 refine WK.drawn mixed ?_
 refine RD.m rfl ?_
 generalize hc20 : joinO (((([c16] : List ByteArray) ++ ([c16x] : List ByteArray)) ++ ([c16xx] : List ByteArray)) ++ ([c16xxx] : List ByteArray)) (bstr [46]) = c20 at hR
 rcases c20 with _ | c20
 ·try dsimp only at hR
  cases hR
 try dsimp only at hR
 try dsimp only at hR
 refine RD.callbp (r := .str c20) [8] rfl rfl rfl (viewGo_cons (view_rowT rfl rfl) (viewGo_cons rfl viewGo_nil)) (f36_ok (((([c16] : List ByteArray) ++ ([c16x] : List ByteArray)) ++ ([c16xx] : List ByteArray)) ++ ([c16xxx] : List ByteArray)) (bstr [46]) _ hc20) rfl rfl ?_
 rcases bool_two (decide (c20.size + (bstr [47]).size ≤ 9223372036854775807)) with hg8 | hg8
 ·simp only [hg8, bb] at hR
  try dsimp only at hR
  cases hR
 simp only [hg8, bb] at hR
 have hg8_ := of_decide_eq_true hg8
 refine RD.pure (v' := .str (c20 ++ (bstr [47]))) rfl rfl rfl (core_addS (by omega)) rfl ?_
 refine RD.q (.ptr 0 1) ?_
 refine RD.q (.int .i64 p0.N) ?_
 generalize hc24 : itoaO p0.N = c24 at hR
 rcases c24 with _ | c24
 ·try dsimp only at hR
  cases hR
 try dsimp only at hR
 try dsimp only at hR
 refine RD.callp (r := .str c24) rfl rfl rfl (f34_ok p0.N _ hc24) rfl rfl ?_
 rcases bool_two (decide ((c20 ++ (bstr [47])).size + c24.size ≤ 9223372036854775807)) with hg9 | hg9
 ·simp only [hg9, bb] at hR
  try dsimp only at hR
  cases hR
 simp only [hg9, bb] at hR
 have hg9_ := of_decide_eq_true hg9
 refine RD.pure (v' := .str ((c20 ++ (bstr [47])) ++ c24)) rfl rfl rfl (core_addS (by omega)) rfl ?_
 refine RD.m rfl ?_
 refine RD.done rfl ?_
 refine WK.ret ?_
 obtain rfl := Option.some.inj hR
 exact RetQ.fr [] (.inr rfl) rfl rfl rfl rfl

theorem f9_ok (x0 : TRule) (R : ByteArray) (hR : F9_plist_Text x0 = some R) : FnOk Tryz.prog 9 [.agg (TRule.c x0)] [] 0 (.str R) [] 0 := by
 refine FnOk.wk i9 rfl rfl ?_
 unfold F9_plist_Text at hR
 try dsimp only at hR
 change WK _ _ _ [ac9] _ ⟨[(0, .agg (TRule.c x0))], [], 0⟩
 unfold ac9
 refine WK.sr mixed ?_
 refine GX.step (v' := .ptr 0 0) (heap' := [(0, .box (TRule.c x0))]) (next' := 1) rfl rfl rfl rfl rfl rfl rfl ?_
 refine GX.m rfl ?_
 refine GX.done ?_
 refine WK.seq ?_
 refine WK.drawn mixed ?_
 refine RD.q (.ptr 0 0) ?_
 refine RD.q (.int .i64 x0.Seq) ?_
 generalize hc6 : itoaO x0.Seq = c6 at hR
 rcases c6 with _ | c6
 ·try dsimp only at hR
  cases hR
 try dsimp only at hR
 try dsimp only at hR
 refine RD.callp (r := .str c6) rfl rfl rfl (f34_ok x0.Seq _ hc6) rfl rfl ?_
 refine RD.q (.ptr 0 2) ?_
 refine RD.q (.agg [.int .u32 x0.P.A, .int .i64 x0.P.N]) ?_
 generalize hc9 : F35_addr_Text x0.P = c9 at hR
 rcases c9 with _ | c9
 ·try dsimp only at hR
  cases hR
 try dsimp only at hR
 try dsimp only at hR
 refine RD.callp (r := .str c9) rfl rfl rfl (f35_ok x0.P _ hc9) rfl rfl ?_
 refine RD.step (v' := .own 1 1 0 (([c6, (bstr [100, 101, 110, 121]), c9] : List ByteArray)).length) (heap' := [(0, .box (TRule.c x0)), (1, .row 1 9 (([c6, (bstr [100, 101, 110, 121]), c9] : List ByteArray).map c_str))]) (next' := 2) rfl rfl rfl rfl rfl rfl rfl ?_
 refine RD.m rfl ?_
 refine RD.done rfl ?_
 refine WK.seq ?_
 refine WK.sr mixed ?_
 refine GX.q (.ptr 0 1) ?_
 refine GX.q (.bool x0.Permit) ?_
 refine GX.done ?_
 rcases bool_two (x0.Permit) with hb1 | hb1
 ·rw [hb1]; first | replace hR := cond_f hb1 hR | (try simp only [hb1, bb] at hR)
  refine WK.condF rfl ?_
  refine WK.skip ?_
  refine WK.seq ?_
  refine WK.sr mixed ?_
  refine GX.q (.ptr 0 4) ?_
  refine GX.q (.int .i64 x0.Ge) ?_
  refine GX.q (.bool (!decide (x0.Ge = 0))) ?_
  refine GX.done ?_
  rcases bool_two (decide (x0.Ge = 0)) with hb2 | hb2
  ·rw [hb2]; first | replace hR := cond_f hb2 hR | (try simp only [hb2, bb] at hR)
   refine WK.condT rfl ?_
   refine WK.regx mixed ?_
   refine GX.m rfl ?_
   refine GX.q (.ptr 0 4) ?_
   refine GX.q (.int .i64 x0.Ge) ?_
   generalize hc21 : itoaO x0.Ge = c21 at hR
   rcases c21 with _ | c21
   ·try dsimp only at hR
    cases hR
   try dsimp only at hR
   try dsimp only at hR
   refine GX.callp (r := .str c21) rfl rfl rfl (f34_ok x0.Ge _ hc21) rfl rfl ?_
   refine GX.step (v' := .own 2 1 0 (([(bstr [103, 101]), c21] : List ByteArray)).length) (heap' := [(0, .box (TRule.c x0)), (1, .row 1 9 (([c6, (bstr [100, 101, 110, 121]), c9] : List ByteArray).map c_str)), (2, .row 1 9 (([(bstr [103, 101]), c21] : List ByteArray).map c_str))]) (next' := 3) rfl rfl rfl rfl rfl rfl rfl ?_
   refine GX.appT (c := c_str) (L := ([c6, (bstr [100, 101, 110, 121]), c9] : List ByteArray)) (X := ([(bstr [103, 101]), c21] : List ByteArray)) (heap' := [(0, .box (TRule.c x0)), (2, .row 1 9 (([(bstr [103, 101]), c21] : List ByteArray).map c_str)), (3, .row 1 9 ((([c6, (bstr [100, 101, 110, 121]), c9] : List ByteArray) ++ ([(bstr [103, 101]), c21] : List ByteArray)).map c_str))]) (next' := 4) rfl rfl rfl rfl (elems_own rfl) (by ((try simp only [List.length_append, List.length_cons, List.length_nil, List.length_map, decide_eq_true_eq, decide_eq_false_iff_not] at *) <;> omega)) (by ((try simp only [List.length_append, List.length_cons, List.length_nil, List.length_map, decide_eq_true_eq, decide_eq_false_iff_not] at *) <;> omega)) rfl rfl rfl rfl ?_
   refine GX.m rfl ?_
   refine GX.done ?_
   refine WK.seq ?_
   refine WK.sr mixed ?_
   refine GX.q (.ptr 0 5) ?_
   refine GX.q (.int .i64 x0.Le) ?_
   refine GX.q (.bool (!decide (x0.Le = 0))) ?_
   refine GX.done ?_
   rcases bool_two (decide (x0.Le = 0)) with hb3 | hb3
   ·rw [hb3]; first | replace hR := cond_f hb3 hR | (try simp only [hb3, bb] at hR)
    refine WK.condT rfl ?_
    refine WK.regx mixed ?_
    refine GX.m rfl ?_
    refine GX.q (.ptr 0 5) ?_
    refine GX.q (.int .i64 x0.Le) ?_
    generalize hc30 : itoaO x0.Le = c30 at hR
    rcases c30 with _ | c30
    ·try dsimp only at hR
     cases hR
    try dsimp only at hR
    try dsimp only at hR
    refine GX.callp (r := .str c30) rfl rfl rfl (f34_ok x0.Le _ hc30) rfl rfl ?_
    refine GX.step (v' := .own 4 1 0 (([(bstr [108, 101]), c30] : List ByteArray)).length) (heap' := [(0, .box (TRule.c x0)), (2, .row 1 9 (([(bstr [103, 101]), c21] : List ByteArray).map c_str)), (3, .row 1 9 ((([c6, (bstr [100, 101, 110, 121]), c9] : List ByteArray) ++ ([(bstr [103, 101]), c21] : List ByteArray)).map c_str)), (4, .row 1 9 (([(bstr [108, 101]), c30] : List ByteArray).map c_str))]) (next' := 5) rfl rfl rfl rfl rfl rfl rfl ?_
    rcases bool_two (decide ((([c6, (bstr [100, 101, 110, 121]), c9] : List ByteArray) ++ ([(bstr [103, 101]), c21] : List ByteArray)).length < 1099511627776)) with hg4 | hg4
    ·simp only [hg4, bb] at hR
     try dsimp only at hR
     cases hR
    simp only [hg4, bb] at hR
    have hg4_ := of_decide_eq_true hg4
    refine GX.appT (c := c_str) (L := (([c6, (bstr [100, 101, 110, 121]), c9] : List ByteArray) ++ ([(bstr [103, 101]), c21] : List ByteArray))) (X := ([(bstr [108, 101]), c30] : List ByteArray)) (heap' := [(0, .box (TRule.c x0)), (2, .row 1 9 (([(bstr [103, 101]), c21] : List ByteArray).map c_str)), (4, .row 1 9 (([(bstr [108, 101]), c30] : List ByteArray).map c_str)), (5, .row 1 9 (((([c6, (bstr [100, 101, 110, 121]), c9] : List ByteArray) ++ ([(bstr [103, 101]), c21] : List ByteArray)) ++ ([(bstr [108, 101]), c30] : List ByteArray)).map c_str))]) (next' := 6) rfl rfl rfl rfl (elems_own rfl) (by ((try simp only [List.length_append, List.length_cons, List.length_nil, List.length_map, decide_eq_true_eq, decide_eq_false_iff_not] at *) <;> omega)) (by ((try simp only [List.length_append, List.length_cons, List.length_nil, List.length_map, decide_eq_true_eq, decide_eq_false_iff_not] at *) <;> omega)) rfl rfl rfl rfl ?_
    refine GX.m rfl ?_
    refine GX.done ?_
    refine WK.sr mixed ?_
    refine GX.m rfl ?_
    generalize hc34 : joinO ((([c6, (bstr [100, 101, 110, 121]), c9] : List ByteArray) ++ ([(bstr [103, 101]), c21] : List ByteArray)) ++ ([(bstr [108, 101]), c30] : List ByteArray)) (bstr [32]) = c34 at hR
    rcases c34 with _ | c34
    ·try dsimp only at hR
     cases hR
    try dsimp only at hR
    try dsimp only at hR
    refine GX.callbp (r := .str c34) [5] rfl rfl rfl (viewGo_cons (view_rowT rfl rfl) (viewGo_cons rfl viewGo_nil)) (f36_ok ((([c6, (bstr [100, 101, 110, 121]), c9] : List ByteArray) ++ ([(bstr [103, 101]), c21] : List ByteArray)) ++ ([(bstr [108, 101]), c30] : List ByteArray)) (bstr [32]) _ hc34) rfl rfl ?_
    refine GX.m rfl ?_
    refine GX.done ?_
    refine WK.ret ?_
    obtain rfl := Option.some.inj hR
    exact RetQ.fr [] (.inr rfl) rfl rfl rfl rfl
   ·rw [hb3]; first | replace hR := cond_t hb3 hR | (try simp only [hb3, bb] at hR)
    refine WK.condF rfl ?_
    refine WK.skip ?_
    refine WK.sr mixed ?_
    refine GX.m rfl ?_
    generalize hc34 : joinO (([c6, (bstr [100, 101, 110, 121]), c9] : List ByteArray) ++ ([(bstr [103, 101]), c21] : List ByteArray)) (bstr [32]) = c34 at hR
    rcases c34 with _ | c34
    ·try dsimp only at hR
     cases hR
    try dsimp only at hR
    try dsimp only at hR
    refine GX.callbp (r := .str c34) [3] rfl rfl rfl (viewGo_cons (view_rowT rfl rfl) (viewGo_cons rfl viewGo_nil)) (f36_ok (([c6, (bstr [100, 101, 110, 121]), c9] : List ByteArray) ++ ([(bstr [103, 101]), c21] : List ByteArray)) (bstr [32]) _ hc34) rfl rfl ?_
    refine GX.m rfl ?_
    refine GX.done ?_
    refine WK.ret ?_
    obtain rfl := Option.some.inj hR
    exact RetQ.fr [] (.inr rfl) rfl rfl rfl rfl
  ·rw [hb2]; first | replace hR := cond_t hb2 hR | (try simp only [hb2, bb] at hR)
   refine WK.condF rfl ?_
   refine WK.skip ?_
   refine WK.seq ?_
   refine WK.sr mixed ?_
   refine GX.q (.ptr 0 5) ?_
   refine GX.q (.int .i64 x0.Le) ?_
   refine GX.q (.bool (!decide (x0.Le = 0))) ?_
   refine GX.done ?_
   rcases bool_two (decide (x0.Le = 0)) with hb5 | hb5
   ·rw [hb5]; first | replace hR := cond_f hb5 hR | (try simp only [hb5, bb] at hR)
    refine WK.condT rfl ?_
    refine WK.regx mixed ?_
    refine GX.m rfl ?_
    refine GX.q (.ptr 0 5) ?_
    refine GX.q (.int .i64 x0.Le) ?_
    generalize hc30 : itoaO x0.Le = c30 at hR
    rcases c30 with _ | c30
    ·try dsimp only at hR
     cases hR
    try dsimp only at hR
    try dsimp only at hR
    refine GX.callp (r := .str c30) rfl rfl rfl (f34_ok x0.Le _ hc30) rfl rfl ?_
    refine GX.step (v' := .own 2 1 0 (([(bstr [108, 101]), c30] : List ByteArray)).length) (heap' := [(0, .box (TRule.c x0)), (1, .row 1 9 (([c6, (bstr [100, 101, 110, 121]), c9] : List ByteArray).map c_str)), (2, .row 1 9 (([(bstr [108, 101]), c30] : List ByteArray).map c_str))]) (next' := 3) rfl rfl rfl rfl rfl rfl rfl ?_
    refine GX.appT (c := c_str) (L := ([c6, (bstr [100, 101, 110, 121]), c9] : List ByteArray)) (X := ([(bstr [108, 101]), c30] : List ByteArray)) (heap' := [(0, .box (TRule.c x0)), (2, .row 1 9 (([(bstr [108, 101]), c30] : List ByteArray).map c_str)), (3, .row 1 9 ((([c6, (bstr [100, 101, 110, 121]), c9] : List ByteArray) ++ ([(bstr [108, 101]), c30] : List ByteArray)).map c_str))]) (next' := 4) rfl rfl rfl rfl (elems_own rfl) (by ((try simp only [List.length_append, List.length_cons, List.length_nil, List.length_map, decide_eq_true_eq, decide_eq_false_iff_not] at *) <;> omega)) (by ((try simp only [List.length_append, List.length_cons, List.length_nil, List.length_map, decide_eq_true_eq, decide_eq_false_iff_not] at *) <;> omega)) rfl rfl rfl rfl ?_
    refine GX.m rfl ?_
    refine GX.done ?_
    refine WK.sr mixed ?_
    refine GX.m rfl ?_
    generalize hc34 : joinO (([c6, (bstr [100, 101, 110, 121]), c9] : List ByteArray) ++ ([(bstr [108, 101]), c30] : List ByteArray)) (bstr [32]) = c34 at hR
    rcases c34 with _ | c34
    ·try dsimp only at hR
     cases hR
    try dsimp only at hR
    try dsimp only at hR
    refine GX.callbp (r := .str c34) [3] rfl rfl rfl (viewGo_cons (view_rowT rfl rfl) (viewGo_cons rfl viewGo_nil)) (f36_ok (([c6, (bstr [100, 101, 110, 121]), c9] : List ByteArray) ++ ([(bstr [108, 101]), c30] : List ByteArray)) (bstr [32]) _ hc34) rfl rfl ?_
    refine GX.m rfl ?_
    refine GX.done ?_
    refine WK.ret ?_
    obtain rfl := Option.some.inj hR
    exact RetQ.fr [] (.inr rfl) rfl rfl rfl rfl
   ·rw [hb5]; first | replace hR := cond_t hb5 hR | (try simp only [hb5, bb] at hR)
    refine WK.condF rfl ?_
    refine WK.skip ?_
    refine WK.sr mixed ?_
    refine GX.m rfl ?_
    generalize hc34 : joinO ([c6, (bstr [100, 101, 110, 121]), c9] : List ByteArray) (bstr [32]) = c34 at hR
    rcases c34 with _ | c34
    ·try dsimp only at hR
     cases hR
    try dsimp only at hR
    try dsimp only at hR
    refine GX.callbp (r := .str c34) [1] rfl rfl rfl (viewGo_cons (view_rowT rfl rfl) (viewGo_cons rfl viewGo_nil)) (f36_ok ([c6, (bstr [100, 101, 110, 121]), c9] : List ByteArray) (bstr [32]) _ hc34) rfl rfl ?_
    refine GX.m rfl ?_
    refine GX.done ?_
    refine WK.ret ?_
    obtain rfl := Option.some.inj hR
    exact RetQ.fr [] (.inr rfl) rfl rfl rfl rfl
 ·rw [hb1]; first | replace hR := cond_t hb1 hR | (try simp only [hb1, bb] at hR)
  refine WK.condT rfl ?_
  refine WK.regx mixed ?_
  refine GX.m rfl ?_
  generalize hx905 : getI ([c6, (bstr [100, 101, 110, 121]), c9] : List ByteArray) 1 = x905 at hR
  rcases x905 with _ | x905
  ·try dsimp only at hR
   cases hR
  try dsimp only at hR
  obtain ⟨hx9050, hx905j, hx905l, hx905⟩ := getI_some hx905
  refine GX.pure (v' := .eptr 1 1 1 0) rfl rfl rfl (core_idxoT (c := c_str) (L := ([c6, (bstr [100, 101, 110, 121]), c9] : List ByteArray)) (j := 1) rfl hx905j hx905l (by exact Nat.le_refl _)) rfl ?_
  refine GX.step0 (heap' := [(0, .box (TRule.c x0)), (1, .row 1 9 ((([c6, (bstr [100, 101, 110, 121]), c9] : List ByteArray).set 1 (bstr [112, 101, 114, 109, 105, 116])).map c_str))]) (next' := 2) rfl rfl (core_stoT (c := c_str) (L := ([c6, (bstr [100, 101, 110, 121]), c9] : List ByteArray)) (x := x905) (x' := (bstr [112, 101, 114, 109, 105, 116])) rfl hx905 rfl rfl rfl rfl rfl) rfl rfl ?_
  refine GX.done ?_
  refine WK.seq ?_
  refine WK.sr mixed ?_
  refine GX.q (.ptr 0 4) ?_
  refine GX.q (.int .i64 x0.Ge) ?_
  refine GX.q (.bool (!decide (x0.Ge = 0))) ?_
  refine GX.done ?_
  rcases bool_two (decide (x0.Ge = 0)) with hb7 | hb7
  ·rw [hb7]; first | replace hR := cond_f hb7 hR | (try simp only [hb7, bb] at hR)
   refine WK.condT rfl ?_
   refine WK.regx mixed ?_
   refine GX.m rfl ?_
   refine GX.q (.ptr 0 4) ?_
   refine GX.q (.int .i64 x0.Ge) ?_
   generalize hc21 : itoaO x0.Ge = c21 at hR
   rcases c21 with _ | c21
   ·try dsimp only at hR
    cases hR
   try dsimp only at hR
   try dsimp only at hR
   refine GX.callp (r := .str c21) rfl rfl rfl (f34_ok x0.Ge _ hc21) rfl rfl ?_
   refine GX.step (v' := .own 2 1 0 (([(bstr [103, 101]), c21] : List ByteArray)).length) (heap' := [(0, .box (TRule.c x0)), (1, .row 1 9 ((([c6, (bstr [100, 101, 110, 121]), c9] : List ByteArray).set 1 (bstr [112, 101, 114, 109, 105, 116])).map c_str)), (2, .row 1 9 (([(bstr [103, 101]), c21] : List ByteArray).map c_str))]) (next' := 3) rfl rfl rfl rfl rfl rfl rfl ?_
   rcases bool_two (decide ((([c6, (bstr [100, 101, 110, 121]), c9] : List ByteArray).set 1 (bstr [112, 101, 114, 109, 105, 116])).length < 1099511627776)) with hg8 | hg8
   ·simp only [hg8, bb] at hR
    try dsimp only at hR
    cases hR
   simp only [hg8, bb] at hR
   have hg8_ := of_decide_eq_true hg8
   refine GX.appT (c := c_str) (L := (([c6, (bstr [100, 101, 110, 121]), c9] : List ByteArray).set 1 (bstr [112, 101, 114, 109, 105, 116]))) (X := ([(bstr [103, 101]), c21] : List ByteArray)) (heap' := [(0, .box (TRule.c x0)), (2, .row 1 9 (([(bstr [103, 101]), c21] : List ByteArray).map c_str)), (3, .row 1 9 (((([c6, (bstr [100, 101, 110, 121]), c9] : List ByteArray).set 1 (bstr [112, 101, 114, 109, 105, 116])) ++ ([(bstr [103, 101]), c21] : List ByteArray)).map c_str))]) (next' := 4) rfl rfl rfl rfl (elems_own rfl) (by ((try simp only [List.length_append, List.length_cons, List.length_nil, List.length_map, decide_eq_true_eq, decide_eq_false_iff_not] at *) <;> omega)) (by ((try simp only [List.length_append, List.length_cons, List.length_nil, List.length_map, decide_eq_true_eq, decide_eq_false_iff_not] at *) <;> omega)) (by simp) rfl rfl rfl ?_
   refine GX.m rfl ?_
   refine GX.done ?_
   refine WK.seq ?_
   refine WK.sr mixed ?_
   refine GX.q (.ptr 0 5) ?_
   refine GX.q (.int .i64 x0.Le) ?_
   refine GX.q (.bool (!decide (x0.Le = 0))) ?_
   refine GX.done ?_
   rcases bool_two (decide (x0.Le = 0)) with hb9 | hb9
   ·rw [hb9]; first | replace hR := cond_f hb9 hR | (try simp only [hb9, bb] at hR)
    refine WK.condT rfl ?_
    refine WK.regx mixed ?_
    refine GX.m rfl ?_
    refine GX.q (.ptr 0 5) ?_
    refine GX.q (.int .i64 x0.Le) ?_
    generalize hc30 : itoaO x0.Le = c30 at hR
    rcases c30 with _ | c30
    ·try dsimp only at hR
     cases hR
    try dsimp only at hR
    try dsimp only at hR
    refine GX.callp (r := .str c30) rfl rfl rfl (f34_ok x0.Le _ hc30) rfl rfl ?_
    refine GX.step (v' := .own 4 1 0 (([(bstr [108, 101]), c30] : List ByteArray)).length) (heap' := [(0, .box (TRule.c x0)), (2, .row 1 9 (([(bstr [103, 101]), c21] : List ByteArray).map c_str)), (3, .row 1 9 (((([c6, (bstr [100, 101, 110, 121]), c9] : List ByteArray).set 1 (bstr [112, 101, 114, 109, 105, 116])) ++ ([(bstr [103, 101]), c21] : List ByteArray)).map c_str)), (4, .row 1 9 (([(bstr [108, 101]), c30] : List ByteArray).map c_str))]) (next' := 5) rfl rfl rfl rfl rfl rfl rfl ?_
    rcases bool_two (decide (((([c6, (bstr [100, 101, 110, 121]), c9] : List ByteArray).set 1 (bstr [112, 101, 114, 109, 105, 116])) ++ ([(bstr [103, 101]), c21] : List ByteArray)).length < 1099511627776)) with hg10 | hg10
    ·simp only [hg10, bb] at hR
     try dsimp only at hR
     cases hR
    simp only [hg10, bb] at hR
    have hg10_ := of_decide_eq_true hg10
    refine GX.appT (c := c_str) (L := ((([c6, (bstr [100, 101, 110, 121]), c9] : List ByteArray).set 1 (bstr [112, 101, 114, 109, 105, 116])) ++ ([(bstr [103, 101]), c21] : List ByteArray))) (X := ([(bstr [108, 101]), c30] : List ByteArray)) (heap' := [(0, .box (TRule.c x0)), (2, .row 1 9 (([(bstr [103, 101]), c21] : List ByteArray).map c_str)), (4, .row 1 9 (([(bstr [108, 101]), c30] : List ByteArray).map c_str)), (5, .row 1 9 ((((([c6, (bstr [100, 101, 110, 121]), c9] : List ByteArray).set 1 (bstr [112, 101, 114, 109, 105, 116])) ++ ([(bstr [103, 101]), c21] : List ByteArray)) ++ ([(bstr [108, 101]), c30] : List ByteArray)).map c_str))]) (next' := 6) rfl rfl rfl rfl (elems_own rfl) (by ((try simp only [List.length_append, List.length_cons, List.length_nil, List.length_map, decide_eq_true_eq, decide_eq_false_iff_not] at *) <;> omega)) (by ((try simp only [List.length_append, List.length_cons, List.length_nil, List.length_map, decide_eq_true_eq, decide_eq_false_iff_not] at *) <;> omega)) rfl rfl rfl rfl ?_
    refine GX.m rfl ?_
    refine GX.done ?_
    refine WK.sr mixed ?_
    refine GX.m rfl ?_
    generalize hc34 : joinO (((([c6, (bstr [100, 101, 110, 121]), c9] : List ByteArray).set 1 (bstr [112, 101, 114, 109, 105, 116])) ++ ([(bstr [103, 101]), c21] : List ByteArray)) ++ ([(bstr [108, 101]), c30] : List ByteArray)) (bstr [32]) = c34 at hR
    rcases c34 with _ | c34
    ·try dsimp only at hR
     cases hR
    try dsimp only at hR
    try dsimp only at hR
    refine GX.callbp (r := .str c34) [5] rfl rfl rfl (viewGo_cons (view_rowT rfl rfl) (viewGo_cons rfl viewGo_nil)) (f36_ok (((([c6, (bstr [100, 101, 110, 121]), c9] : List ByteArray).set 1 (bstr [112, 101, 114, 109, 105, 116])) ++ ([(bstr [103, 101]), c21] : List ByteArray)) ++ ([(bstr [108, 101]), c30] : List ByteArray)) (bstr [32]) _ hc34) rfl rfl ?_
    refine GX.m rfl ?_
    refine GX.done ?_
    refine WK.ret ?_
    obtain rfl := Option.some.inj hR
    exact RetQ.fr [] (.inr rfl) rfl rfl rfl rfl
   ·rw [hb9]; first | replace hR := cond_t hb9 hR | (try simp only [hb9, bb] at hR)
    refine WK.condF rfl ?_
    refine WK.skip ?_
    refine WK.sr mixed ?_
    refine GX.m rfl ?_
    generalize hc34 : joinO ((([c6, (bstr [100, 101, 110, 121]), c9] : List ByteArray).set 1 (bstr [112, 101, 114, 109, 105, 116])) ++ ([(bstr [103, 101]), c21] : List ByteArray)) (bstr [32]) = c34 at hR
    rcases c34 with _ | c34
    ·try dsimp only at hR
     cases hR
    try dsimp only at hR
    try dsimp only at hR
    refine GX.callbp (r := .str c34) [3] rfl rfl rfl (viewGo_cons (view_rowT rfl rfl) (viewGo_cons rfl viewGo_nil)) (f36_ok ((([c6, (bstr [100, 101, 110, 121]), c9] : List ByteArray).set 1 (bstr [112, 101, 114, 109, 105, 116])) ++ ([(bstr [103, 101]), c21] : List ByteArray)) (bstr [32]) _ hc34) rfl rfl ?_
    refine GX.m rfl ?_
    refine GX.done ?_
    refine WK.ret ?_
    obtain rfl := Option.some.inj hR
    exact RetQ.fr [] (.inr rfl) rfl rfl rfl rfl
  ·rw [hb7]; first | replace hR := cond_t hb7 hR | (try simp only [hb7, bb] at hR)
   refine WK.condF rfl ?_
   refine WK.skip ?_
   refine WK.seq ?_
   refine WK.sr mixed ?_
   refine GX.q (.ptr 0 5) ?_
   refine GX.q (.int .i64 x0.Le) ?_
   refine GX.q (.bool (!decide (x0.Le = 0))) ?_
   refine GX.done ?_
   rcases bool_two (decide (x0.Le = 0)) with hb11 | hb11
   ·rw [hb11]; first | replace hR := cond_f hb11 hR | (try simp only [hb11, bb] at hR)
    refine WK.condT rfl ?_
    refine WK.regx mixed ?_
    refine GX.m rfl ?_
    refine GX.q (.ptr 0 5) ?_
    refine GX.q (.int .i64 x0.Le) ?_
    generalize hc30 : itoaO x0.Le = c30 at hR
    rcases c30 with _ | c30
    ·try dsimp only at hR
     cases hR
    try dsimp only at hR
    try dsimp only at hR
    refine GX.callp (r := .str c30) rfl rfl rfl (f34_ok x0.Le _ hc30) rfl rfl ?_
    refine GX.step (v' := .own 2 1 0 (([(bstr [108, 101]), c30] : List ByteArray)).length) (heap' := [(0, .box (TRule.c x0)), (1, .row 1 9 ((([c6, (bstr [100, 101, 110, 121]), c9] : List ByteArray).set 1 (bstr [112, 101, 114, 109, 105, 116])).map c_str)), (2, .row 1 9 (([(bstr [108, 101]), c30] : List ByteArray).map c_str))]) (next' := 3) rfl rfl rfl rfl rfl rfl rfl ?_
    rcases bool_two (decide ((([c6, (bstr [100, 101, 110, 121]), c9] : List ByteArray).set 1 (bstr [112, 101, 114, 109, 105, 116])).length < 1099511627776)) with hg12 | hg12
    ·simp only [hg12, bb] at hR
     try dsimp only at hR
     cases hR
    simp only [hg12, bb] at hR
    have hg12_ := of_decide_eq_true hg12
    refine GX.appT (c := c_str) (L := (([c6, (bstr [100, 101, 110, 121]), c9] : List ByteArray).set 1 (bstr [112, 101, 114, 109, 105, 116]))) (X := ([(bstr [108, 101]), c30] : List ByteArray)) (heap' := [(0, .box (TRule.c x0)), (2, .row 1 9 (([(bstr [108, 101]), c30] : List ByteArray).map c_str)), (3, .row 1 9 (((([c6, (bstr [100, 101, 110, 121]), c9] : List ByteArray).set 1 (bstr [112, 101, 114, 109, 105, 116])) ++ ([(bstr [108, 101]), c30] : List ByteArray)).map c_str))]) (next' := 4) rfl rfl rfl rfl (elems_own rfl) (by ((try simp only [List.length_append, List.length_cons, List.length_nil, List.length_map, decide_eq_true_eq, decide_eq_false_iff_not] at *) <;> omega)) (by ((try simp only [List.length_append, List.length_cons, List.length_nil, List.length_map, decide_eq_true_eq, decide_eq_false_iff_not] at *) <;> omega)) (by simp) rfl rfl rfl ?_
    refine GX.m rfl ?_
    refine GX.done ?_
    refine WK.sr mixed ?_
    refine GX.m rfl ?_
    generalize hc34 : joinO ((([c6, (bstr [100, 101, 110, 121]), c9] : List ByteArray).set 1 (bstr [112, 101, 114, 109, 105, 116])) ++ ([(bstr [108, 101]), c30] : List ByteArray)) (bstr [32]) = c34 at hR
    rcases c34 with _ | c34
    ·try dsimp only at hR
     cases hR
    try dsimp only at hR
    try dsimp only at hR
    refine GX.callbp (r := .str c34) [3] rfl rfl rfl (viewGo_cons (view_rowT rfl rfl) (viewGo_cons rfl viewGo_nil)) (f36_ok ((([c6, (bstr [100, 101, 110, 121]), c9] : List ByteArray).set 1 (bstr [112, 101, 114, 109, 105, 116])) ++ ([(bstr [108, 101]), c30] : List ByteArray)) (bstr [32]) _ hc34) rfl rfl ?_
    refine GX.m rfl ?_
    refine GX.done ?_
    refine WK.ret ?_
    obtain rfl := Option.some.inj hR
    exact RetQ.fr [] (.inr rfl) rfl rfl rfl rfl
   ·rw [hb11]; first | replace hR := cond_t hb11 hR | (try simp only [hb11, bb] at hR)
    refine WK.condF rfl ?_
    refine WK.skip ?_
    refine WK.sr mixed ?_
    refine GX.m rfl ?_
    generalize hc34 : joinO (([c6, (bstr [100, 101, 110, 121]), c9] : List ByteArray).set 1 (bstr [112, 101, 114, 109, 105, 116])) (bstr [32]) = c34 at hR
    rcases c34 with _ | c34
    ·try dsimp only at hR
     cases hR
    try dsimp only at hR
    try dsimp only at hR
    refine GX.callbp (r := .str c34) [1] rfl rfl rfl (viewGo_cons (view_rowM rfl rfl (by simp)) (viewGo_cons rfl viewGo_nil)) (f36_ok (([c6, (bstr [100, 101, 110, 121]), c9] : List ByteArray).set 1 (bstr [112, 101, 114, 109, 105, 116])) (bstr [32]) _ hc34) rfl rfl ?_
    refine GX.m rfl ?_
    refine GX.done ?_
    refine WK.ret ?_
    obtain rfl := Option.some.inj hR
    exact RetQ.fr [] (.inr rfl) rfl rfl rfl rfl

theorem f39_ok (x0 : TRule) (R : Int × Int) (hR : F39_plist_Rule_bounds x0 = R) : FnOk Tryz.prog 39 [.agg (TRule.c x0)] [] 0 (.tup [.int .i64 R.1, .int .i64 R.2]) [] 0 := by
 refine FnOk.wk i39 rfl rfl ?_
 unfold F39_plist_Rule_bounds at hR
 change WK _ _ _ [ac39] _ ⟨[(0, .agg (TRule.c x0))], [], 0⟩
 unfold ac39
 refine WK.sr mixed ?_
 refine GX.step (v' := .ptr 0 0) (heap' := [(0, .box (TRule.c x0))]) (next' := 1) rfl rfl rfl rfl rfl rfl rfl ?_
 iterate 2 refine GX.m rfl ?_
 refine GX.done ?_
 refine WK.seq ?_
 refine WK.blockK (fun _ hK1 => ?_)
 refine WK.sr mixed ?_
 refine GX.q (.ptr 0 4) ?_
 refine GX.q (.int .i64 x0.Ge) ?_
 refine GX.q (.bool (decide (x0.Ge = 0))) ?_
 refine GX.m rfl ?_
 rcases bool_two (decide (x0.Ge = 0)) with hb2 | hb2
 ·rw [hb2]; try simp only [hb2, bb] at hR
  iterate 3 refine GX.skip rfl rfl ?_
  refine GX.q (.bool false) ?_
  refine GX.m rfl ?_
  refine GX.done ?_
  refine WK.condF rfl ?_
  refine WK.sr mixed ?_
  refine GX.q (.ptr 0 4) ?_
  refine GX.q (.int .i64 x0.Ge) ?_
  refine GX.q (.bool (decide (x0.Ge = 0))) ?_
  refine GX.m rfl ?_
  refine GX.done ?_
  rw [hb2]
  refine WK.condF rfl ?_
  refine WK.sr mixed ?_
  refine GX.q (.ptr 0 5) ?_
  refine GX.q (.int .i64 x0.Le) ?_
  refine GX.q (.bool (decide (x0.Le = 0))) ?_
  refine GX.m rfl ?_
  refine GX.done ?_
  rcases bool_two (decide (x0.Le = 0)) with hb3 | hb3
  ·rw [hb3]; try simp only [hb3, bb] at hR
   refine WK.condF rfl ?_
   refine WK.skip ?_
   refine WK.nil (QF.normal (hK1 _ ?_))
   refine WK.seq ?_
   refine WK.drawn mixed ?_
   refine RD.q (.ptr 0 4) ?_
   refine RD.q (.int .i64 x0.Ge) ?_
   refine RD.q (.ptr 0 5) ?_
   refine RD.q (.int .i64 x0.Le) ?_
   iterate 2 refine RD.m rfl ?_
   refine RD.done rfl ?_
   refine WK.ret ?_
   subst hR
   exact RetQ.fr [] (.inr rfl) rfl rfl rfl rfl
  ·rw [hb3]; try simp only [hb3, bb] at hR
   refine WK.condT rfl ?_
   refine WK.sr mixed ?_
   refine GX.q (.ptr 0 4) ?_
   refine GX.q (.int .i64 x0.Ge) ?_
   iterate 2 refine GX.m rfl ?_
   refine GX.done ?_
   refine WK.ret ?_
   refine QF.ret ?_
   subst hR
   exact RetQ.fr [] (.inr rfl) rfl rfl rfl rfl
 ·rw [hb2]; try simp only [hb2, bb] at hR
  refine GX.q (.ptr 0 5) ?_
  refine GX.q (.int .i64 x0.Le) ?_
  iterate 2 refine GX.q (.bool (decide (x0.Le = 0))) ?_
  refine GX.m rfl ?_
  refine GX.done ?_
  rcases bool_two (decide (x0.Le = 0)) with hb4 | hb4
  ·rw [hb4]; try simp only [hb4, bb] at hR
   refine WK.condF rfl ?_
   refine WK.sr mixed ?_
   refine GX.q (.ptr 0 4) ?_
   refine GX.q (.int .i64 x0.Ge) ?_
   refine GX.q (.bool (decide (x0.Ge = 0))) ?_
   refine GX.m rfl ?_
   refine GX.done ?_
   rw [hb2]
   refine WK.condT rfl ?_
   refine WK.seq ?_
   refine WK.drawn mixed ?_
   refine RD.q (.ptr 0 2) ?_
   refine RD.q (.ptr 0 3) ?_
   refine RD.q (.int .i64 x0.P.N) ?_
   refine RD.q (.ptr 0 5) ?_
   refine RD.q (.int .i64 x0.Le) ?_
   iterate 2 refine RD.m rfl ?_
   refine RD.done rfl ?_
   refine WK.ret ?_
   refine QF.ret ?_
   subst hR
   exact RetQ.fr [] (.inr rfl) rfl rfl rfl rfl
  ·rw [hb4]; try simp only [hb4, bb] at hR
   refine WK.condT rfl ?_
   refine WK.seq ?_
   refine WK.drawn mixed ?_
   refine RD.q (.ptr 0 2) ?_
   refine RD.q (.ptr 0 3) ?_
   refine RD.q (.int .i64 x0.P.N) ?_
   refine RD.q (.ptr 0 2) ?_
   refine RD.q (.ptr 0 3) ?_
   refine RD.q (.int .i64 x0.P.N) ?_
   iterate 2 refine RD.m rfl ?_
   refine RD.done rfl ?_
   refine WK.ret ?_
   refine QF.ret ?_
   subst hR
   exact RetQ.fr [] (.inr rfl) rfl rfl rfl rfl

theorem f70_ok (p0 : TPrefix) (a1 : Int) (R : Bool) (hR : F70_addr_Has p0 a1 = R) : FnOk Tryz.prog 70 [.agg (TPrefix.c p0), .int .u32 a1] [] 0 (.bool R) [] 0 := by
 refine FnOk.wk i70 rfl rfl ?_
 unfold F70_addr_Has at hR
 change WK _ _ _ [ac70] _ ⟨[(0, .agg (TPrefix.c p0)), (1, .int .u32 a1)], [], 0⟩
 unfold ac70
 refine WK.sr mixed ?_
 refine GX.step (v' := .ptr 0 0) (heap' := [(0, .box (TPrefix.c p0))]) (next' := 1) rfl rfl rfl rfl rfl rfl rfl ?_
 refine GX.m rfl ?_
 refine GX.done ?_
 refine WK.seq ?_
 refine WK.drawn mixed ?_
 refine RD.q (.agg (TPrefix.c p0)) ?_
 generalize hc6 : F37_addr_May p0 = c6 at hR
 try dsimp only at hR
 refine RD.callp (r := .bool c6) rfl rfl rfl (f37_ok p0 _ hc6) rfl rfl ?_
 refine RD.m rfl ?_
 rcases bool_two (c6) with hb1 | hb1
 ·rw [hb1]; try simp only [hb1, bb] at hR
  iterate 8 refine RD.skip rfl rfl ?_
  refine RD.q (.bool false) ?_
  refine RD.m rfl ?_
  refine RD.done rfl ?_
  refine WK.ret ?_
  subst hR
  exact RetQ.fr [] (.inr rfl) rfl rfl rfl rfl
 ·rw [hb1]; try simp only [hb1, bb] at hR
  refine RD.m rfl ?_
  refine RD.q (.ptr 0 1) ?_
  refine RD.q (.int .i64 p0.N) ?_
  generalize hc11 : F68_addr_Mask p0.N = c11 at hR
  try dsimp only at hR
  refine RD.callp (r := .int .u32 c11) rfl rfl rfl (f68_ok p0.N _ hc11) rfl rfl ?_
  refine RD.q (.int .u32 (bit_and .u32 a1 c11)) ?_
  refine RD.q (.ptr 0 0) ?_
  refine RD.q (.int .u32 p0.A) ?_
  iterate 2 refine RD.q (.bool (decide (bit_and .u32 a1 c11 = p0.A))) ?_
  refine RD.m rfl ?_
  refine RD.done rfl ?_
  refine WK.ret ?_
  subst hR
  exact RetQ.fr [] (.inr rfl) rfl rfl rfl rfl

theorem f40_ok (p0 : TPrefix) (q1 : TPrefix) (R : Bool) (hR : F40_addr_Covers p0 q1 = R) : FnOk Tryz.prog 40 [.agg (TPrefix.c p0), .agg (TPrefix.c q1)] [] 0 (.bool R) [] 0 := by
 refine FnOk.wk i40 rfl rfl ?_
 unfold F40_addr_Covers at hR
 change WK _ _ _ [ac40] _ ⟨[(0, .agg (TPrefix.c p0)), (1, .agg (TPrefix.c q1))], [], 0⟩
 unfold ac40
 refine WK.sr mixed ?_
 refine GX.step (v' := .ptr 0 0) (heap' := [(0, .box (TPrefix.c p0))]) (next' := 1) rfl rfl rfl rfl rfl rfl rfl ?_
 refine GX.step (v' := .ptr 1 0) (heap' := [(0, .box (TPrefix.c p0)), (1, .box (TPrefix.c q1))]) (next' := 2) rfl rfl rfl rfl rfl rfl rfl ?_
 refine GX.m rfl ?_
 refine GX.done ?_
 refine WK.sr mixed ?_
 refine GX.q (.agg (TPrefix.c q1)) ?_
 generalize hc6 : F37_addr_May q1 = c6 at hR
 try dsimp only at hR
 refine GX.callp (r := .bool c6) rfl rfl rfl (f37_ok q1 _ hc6) rfl rfl ?_
 refine GX.m rfl ?_
 rcases bool_two (c6) with hb1 | hb1
 ·rw [hb1]; try simp only [hb1, bb] at hR
  iterate 5 refine GX.skip rfl rfl ?_
  refine GX.q (.bool false) ?_
  refine GX.m rfl ?_
  iterate 4 refine GX.skip rfl rfl ?_
  refine GX.q (.bool false) ?_
  refine GX.m rfl ?_
  refine GX.done ?_
  refine WK.ret ?_
  subst hR
  exact RetQ.fr [] (.inr rfl) rfl rfl rfl rfl
 ·rw [hb1]; try simp only [hb1, bb] at hR
  refine GX.q (.ptr 0 1) ?_
  refine GX.q (.int .i64 p0.N) ?_
  refine GX.q (.ptr 1 1) ?_
  refine GX.q (.int .i64 q1.N) ?_
  iterate 2 refine GX.q (.bool (decide (p0.N ≤ q1.N))) ?_
  refine GX.m rfl ?_
  rcases bool_two (decide (p0.N ≤ q1.N)) with hb2 | hb2
  ·rw [hb2]; try simp only [hb2, bb] at hR
   iterate 4 refine GX.skip rfl rfl ?_
   refine GX.q (.bool false) ?_
   refine GX.m rfl ?_
   refine GX.done ?_
   refine WK.ret ?_
   subst hR
   exact RetQ.fr [] (.inr rfl) rfl rfl rfl rfl
  ·rw [hb2]; try simp only [hb2, bb] at hR
   refine GX.q (.agg (TPrefix.c p0)) ?_
   refine GX.q (.ptr 1 0) ?_
   refine GX.q (.int .u32 q1.A) ?_
   generalize hc18 : F70_addr_Has p0 q1.A = c18 at hR
   try dsimp only at hR
   refine GX.callp (r := .bool c18) rfl rfl rfl (f70_ok p0 q1.A _ hc18) rfl rfl ?_
   refine GX.q (.bool c18) ?_
   refine GX.m rfl ?_
   refine GX.done ?_
   refine WK.ret ?_
   subst hR
   exact RetQ.fr [] (.inr rfl) rfl rfl rfl rfl

theorem f14_ok (x0 : TRule) (q1 : TPrefix) (R : Bool) (hR : F14_plist_Means x0 q1 = R) : FnOk Tryz.prog 14 [.agg (TRule.c x0), .agg (TPrefix.c q1)] [] 0 (.bool R) [] 0 := by
 refine FnOk.wk i14 rfl rfl ?_
 unfold F14_plist_Means at hR
 change WK _ _ _ [ac14] _ ⟨[(0, .agg (TRule.c x0)), (1, .agg (TPrefix.c q1))], [], 0⟩
 unfold ac14
 refine WK.sr mixed ?_
 refine GX.step (v' := .ptr 0 0) (heap' := [(0, .box (TRule.c x0))]) (next' := 1) rfl rfl rfl rfl rfl rfl rfl ?_
 refine GX.step (v' := .ptr 1 0) (heap' := [(0, .box (TRule.c x0)), (1, .box (TPrefix.c q1))]) (next' := 2) rfl rfl rfl rfl rfl rfl rfl ?_
 refine GX.m rfl ?_
 refine GX.done ?_
 refine WK.sr mixed ?_
 refine GX.q (.agg (TRule.c x0)) ?_
 generalize hc9 : F39_plist_Rule_bounds x0 = c9 at hR
 obtain ⟨c9a, c9b⟩ := c9; try dsimp only at hR
 refine GX.callp (r := .tup [.int .i64 c9a, .int .i64 c9b]) rfl rfl rfl (f39_ok x0 _ hc9) rfl rfl ?_
 refine GX.m rfl ?_
 refine GX.q (.int .i64 c9a) ?_
 refine GX.q (.int .i64 c9b) ?_
 iterate 2 refine GX.m rfl ?_
 refine GX.done ?_
 refine WK.sr mixed ?_
 refine GX.q (.agg (TRule.c x0)) ?_
 generalize hc13 : F10_plist_May x0 = c13 at hR
 try dsimp only at hR
 refine GX.callp (r := .bool c13) rfl rfl rfl (f10_ok x0 _ hc13) rfl rfl ?_
 refine GX.m rfl ?_
 rcases bool_two (c13) with hb1 | hb1
 ·rw [hb1]; try simp only [hb1, bb] at hR
  iterate 4 refine GX.skip rfl rfl ?_
  refine GX.q (.bool false) ?_
  refine GX.m rfl ?_
  iterate 4 refine GX.skip rfl rfl ?_
  refine GX.q (.bool false) ?_
  refine GX.m rfl ?_
  iterate 4 refine GX.skip rfl rfl ?_
  refine GX.q (.bool false) ?_
  refine GX.m rfl ?_
  refine GX.done ?_
  refine WK.ret ?_
  subst hR
  exact RetQ.fr [] (.inr rfl) rfl rfl rfl rfl
 ·rw [hb1]; try simp only [hb1, bb] at hR
  refine GX.q (.ptr 0 2) ?_
  refine GX.q (.agg [.int .u32 x0.P.A, .int .i64 x0.P.N]) ?_
  refine GX.q (.agg (TPrefix.c q1)) ?_
  generalize hc18 : F40_addr_Covers x0.P q1 = c18 at hR
  try dsimp only at hR
  refine GX.callp (r := .bool c18) rfl rfl rfl (f40_ok x0.P q1 _ hc18) rfl rfl ?_
  refine GX.q (.bool c18) ?_
  refine GX.m rfl ?_
  rcases bool_two (c18) with hb2 | hb2
  ·rw [hb2]; try simp only [hb2, bb] at hR
   iterate 4 refine GX.skip rfl rfl ?_
   refine GX.q (.bool false) ?_
   refine GX.m rfl ?_
   iterate 4 refine GX.skip rfl rfl ?_
   refine GX.q (.bool false) ?_
   refine GX.m rfl ?_
   refine GX.done ?_
   refine WK.ret ?_
   subst hR
   exact RetQ.fr [] (.inr rfl) rfl rfl rfl rfl
  ·rw [hb2]; try simp only [hb2, bb] at hR
   refine GX.q (.ptr 1 1) ?_
   refine GX.q (.int .i64 q1.N) ?_
   refine GX.m rfl ?_
   iterate 2 refine GX.q (.bool (decide (c9a ≤ q1.N))) ?_
   refine GX.m rfl ?_
   rcases bool_two (decide (c9a ≤ q1.N)) with hb3 | hb3
   ·rw [hb3]; try simp only [hb3, bb] at hR
    iterate 4 refine GX.skip rfl rfl ?_
    refine GX.q (.bool false) ?_
    refine GX.m rfl ?_
    refine GX.done ?_
    refine WK.ret ?_
    subst hR
    exact RetQ.fr [] (.inr rfl) rfl rfl rfl rfl
   ·rw [hb3]; try simp only [hb3, bb] at hR
    refine GX.q (.ptr 1 1) ?_
    refine GX.q (.int .i64 q1.N) ?_
    refine GX.m rfl ?_
    iterate 2 refine GX.q (.bool (decide (q1.N ≤ c9b))) ?_
    refine GX.m rfl ?_
    refine GX.done ?_
    refine WK.ret ?_
    subst hR
    exact RetQ.fr [] (.inr rfl) rfl rfl rfl rfl

theorem f11_ok  (R : Bool) (hR : F11_crossroadslaw07_alive = some R) : FnOk Tryz.prog 11 [] [] 0 (.bool R) [] 0 := by
 refine FnOk.wk i11 rfl rfl ?_
 unfold F11_crossroadslaw07_alive at hR
 try dsimp only at hR
 change WK _ _ _ [ac11] _ ⟨[], [], 0⟩
 unfold ac11
 refine WK.sr mixed ?_
 refine GX.m rfl ?_
 refine GX.done ?_
 refine WK.sr mixed ?_
 generalize hc4 : F8_plist_Parse (bstr [53, 32, 112, 101, 114, 109, 105, 116, 32, 49, 48, 46, 48, 46, 48, 46, 48, 47, 56, 32, 108, 101, 32, 50, 52]) = c4 at hR
 rcases c4 with _ | c4
 ·try dsimp only at hR
  cases hR
 try dsimp only at hR
 obtain ⟨c4a, c4b⟩ := c4; try dsimp only at hR
 refine GX.callp (r := .tup [.agg [.int .i64 c4a.Seq, .bool c4a.Permit, .int .u32 c4a.P.A, .int .i64 c4a.P.N, .int .i64 c4a.Ge, .int .i64 c4a.Le], .int .i64 c4b]) rfl rfl rfl (f8_ok (bstr [53, 32, 112, 101, 114, 109, 105, 116, 32, 49, 48, 46, 48, 46, 48, 46, 48, 47, 56, 32, 108, 101, 32, 50, 52]) _ hc4) rfl rfl ?_
 refine GX.m rfl ?_
 refine GX.q (.agg [.int .i64 c4a.Seq, .bool c4a.Permit, .int .u32 c4a.P.A, .int .i64 c4a.P.N, .int .i64 c4a.Ge, .int .i64 c4a.Le]) ?_
 refine GX.q (.int .i64 c4b) ?_
 refine GX.step (v' := .ptr 0 0) (heap' := [(0, .box [.int .i64 0, .bool false, .int .u32 0, .int .i64 0, .int .i64 0, .int .i64 0])]) (next' := 1) rfl rfl rfl rfl rfl rfl rfl ?_
 refine GX.step0 (heap' := [(0, .box (TRule.c c4a))]) (next' := 1) rfl rfl rfl rfl rfl ?_
 refine GX.m rfl ?_
 refine GX.done ?_
 refine WK.sr mixed ?_
 refine GX.m rfl ?_
 refine GX.q (.bool (decide (c4b = 0))) ?_
 refine GX.m rfl ?_
 rcases bool_two (decide (c4b = 0)) with hb1 | hb1
 ·rw [hb1]; first | replace hR := cond_f hb1 hR | (try simp only [hb1, bb] at hR)
  iterate 3 refine GX.skip rfl rfl ?_
  refine GX.q (.bool false) ?_
  refine GX.m rfl ?_
  iterate 4 refine GX.skip rfl rfl ?_
  refine GX.q (.bool false) ?_
  refine GX.m rfl ?_
  iterate 3 refine GX.skip rfl rfl ?_
  refine GX.q (.bool false) ?_
  refine GX.m rfl ?_
  refine GX.done ?_
  refine WK.ret ?_
  obtain rfl := Option.some.inj hR
  exact RetQ.fr [] (.inr rfl) rfl rfl rfl rfl
 ·rw [hb1]; first | replace hR := cond_t hb1 hR | (try simp only [hb1, bb] at hR)
  refine GX.q (.agg (TRule.c c4a)) ?_
  refine GX.q (.agg [.int .u32 167837696, .int .i64 16]) ?_
  generalize hc12 : F14_plist_Means c4a (⟨167837696, 16⟩ : TPrefix) = c12 at hR
  try dsimp only at hR
  refine GX.callp (r := .bool c12) rfl rfl rfl (f14_ok c4a (⟨167837696, 16⟩ : TPrefix) _ hc12) rfl rfl ?_
  refine GX.q (.bool c12) ?_
  refine GX.m rfl ?_
  rcases bool_two (c12) with hb2 | hb2
  ·rw [hb2]; first | replace hR := cond_f hb2 hR | (try simp only [hb2, bb] at hR)
   iterate 4 refine GX.skip rfl rfl ?_
   refine GX.q (.bool false) ?_
   refine GX.m rfl ?_
   iterate 3 refine GX.skip rfl rfl ?_
   refine GX.q (.bool false) ?_
   refine GX.m rfl ?_
   refine GX.done ?_
   refine WK.ret ?_
   obtain rfl := Option.some.inj hR
   exact RetQ.fr [] (.inr rfl) rfl rfl rfl rfl
  ·rw [hb2]; first | replace hR := cond_t hb2 hR | (try simp only [hb2, bb] at hR)
   refine GX.q (.agg (TRule.c c4a)) ?_
   refine GX.q (.agg [.int .u32 167837952, .int .i64 25]) ?_
   generalize hc17 : F14_plist_Means c4a (⟨167837952, 25⟩ : TPrefix) = c17 at hR
   try dsimp only at hR
   refine GX.callp (r := .bool c17) rfl rfl rfl (f14_ok c4a (⟨167837952, 25⟩ : TPrefix) _ hc17) rfl rfl ?_
   iterate 2 refine GX.q (.bool (!c17)) ?_
   refine GX.m rfl ?_
   rcases bool_two (c17) with hb3 | hb3
   ·rw [hb3]; first | replace hR := cond_f hb3 hR | (try simp only [hb3, bb] at hR)
    refine GX.q (.agg (TRule.c c4a)) ?_
    generalize hc22 : F9_plist_Text c4a = c22 at hR
    rcases c22 with _ | c22
    ·try dsimp only at hR
     cases hR
    try dsimp only at hR
    try dsimp only at hR
    refine GX.callp (r := .str c22) rfl rfl rfl (f9_ok c4a _ hc22) rfl rfl ?_
    iterate 2 refine GX.q (.bool (c22.toList == (bstr [53, 32, 112, 101, 114, 109, 105, 116, 32, 49, 48, 46, 48, 46, 48, 46, 48, 47, 56, 32, 108, 101, 32, 50, 52]).toList)) ?_
    refine GX.m rfl ?_
    refine GX.done ?_
    refine WK.ret ?_
    obtain rfl := Option.some.inj hR
    exact RetQ.fr [] (.inr rfl) rfl rfl rfl rfl
   ·rw [hb3]; first | replace hR := cond_t hb3 hR | (try simp only [hb3, bb] at hR)
    iterate 3 refine GX.skip rfl rfl ?_
    refine GX.q (.bool false) ?_
    refine GX.m rfl ?_
    refine GX.done ?_
    refine WK.ret ?_
    obtain rfl := Option.some.inj hR
    exact RetQ.fr [] (.inr rfl) rfl rfl rfl rfl

theorem f69_ok (a0 : Int) (i1 : Int) (R : Int) (hR : F69_crossroadsref03_Bit a0 i1 = R) : FnOk Tryz.prog 69 [.int .u32 a0, .int .i64 i1] [] 0 (.int .i64 R) [] 0 := by
 refine FnOk.wk i69 rfl rfl ?_
 unfold F69_crossroadsref03_Bit at hR
 change WK _ _ _ [ac69] _ ⟨[(0, .int .u32 a0), (1, .int .i64 i1)], [], 0⟩
 unfold ac69
 refine WK.sr mixed ?_
 refine GX.m rfl ?_
 refine GX.done ?_
 refine WK.seq ?_
 refine WK.sr mixed ?_
 refine GX.m rfl ?_
 refine GX.q (.bool (decide (i1 < 0))) ?_
 refine GX.m rfl ?_
 rcases bool_two (decide (i1 < 0)) with hb1 | hb1
 ·rw [hb1]; try simp only [hb1, bb] at hR
  refine GX.m rfl ?_
  iterate 2 refine GX.q (.bool (decide (31 < i1))) ?_
  refine GX.done ?_
  rcases bool_two (decide (31 < i1)) with hb2 | hb2
  ·rw [hb2]; try simp only [hb2, bb] at hR
   refine WK.condF rfl ?_
   refine WK.skip ?_
   refine WK.sr mixed ?_
   iterate 2 refine GX.m rfl ?_
   refine GX.q (.int .i64 (IntKind.i64.wrap (31 - i1))) ?_
   refine GX.q (.int .u64 (IntKind.u64.wrap (IntKind.i64.wrap (31 - i1)))) ?_
   refine GX.shr rfl rfl rfl (by exact wrap_u64_nonneg _) ?_
   refine GX.q (.int .u32 (bit_and .u32 (shr_ .u32 a0 (IntKind.u64.wrap (IntKind.i64.wrap (31 - i1)))) 1)) ?_
   refine GX.q (.int .i64 (IntKind.i64.wrap (bit_and .u32 (shr_ .u32 a0 (IntKind.u64.wrap (IntKind.i64.wrap (31 - i1)))) 1))) ?_
   refine GX.m rfl ?_
   refine GX.done ?_
   refine WK.ret ?_
   subst hR
   exact RetQ.fr [] (.inr rfl) rfl rfl rfl rfl
  ·rw [hb2]; try simp only [hb2, bb] at hR
   refine WK.condT rfl ?_
   refine WK.sr mixed ?_
   refine GX.m rfl ?_
   refine GX.done ?_
   refine WK.ret ?_
   subst hR
   exact RetQ.fr [] (.inr rfl) rfl rfl rfl rfl
 ·rw [hb1]; try simp only [hb1, bb] at hR
  iterate 2 refine GX.skip rfl rfl ?_
  refine GX.q (.bool true) ?_
  refine GX.done ?_
  refine WK.condT rfl ?_
  refine WK.sr mixed ?_
  refine GX.m rfl ?_
  refine GX.done ?_
  refine WK.ret ?_
  subst hR
  exact RetQ.fr [] (.inr rfl) rfl rfl rfl rfl

theorem f38_ok (p0 : TPrefix) (R : Bool) (hR : F38_crossroadsref03_May p0 = R) : FnOk Tryz.prog 38 [.agg (TPrefix.c p0)] [] 0 (.bool R) [] 0 := by
 refine FnOk.wk i38 rfl rfl ?_
 unfold F38_crossroadsref03_May at hR
 change WK _ _ _ [ac38] _ ⟨[(0, .agg (TPrefix.c p0))], [], 0⟩
 unfold ac38
 refine WK.sr mixed ?_
 refine GX.step (v' := .ptr 0 0) (heap' := [(0, .box (TPrefix.c p0))]) (next' := 1) rfl rfl rfl rfl rfl rfl rfl ?_
 refine GX.m rfl ?_
 refine GX.done ?_
 refine WK.seq ?_
 refine WK.sr mixed ?_
 refine GX.q (.ptr 0 1) ?_
 refine GX.q (.int .i64 p0.N) ?_
 refine GX.q (.bool (decide (p0.N < 0))) ?_
 refine GX.m rfl ?_
 rcases bool_two (decide (p0.N < 0)) with hb1 | hb1
 ·rw [hb1]; try simp only [hb1, bb] at hR
  refine GX.q (.ptr 0 1) ?_
  refine GX.q (.int .i64 p0.N) ?_
  iterate 2 refine GX.q (.bool (decide (32 < p0.N))) ?_
  refine GX.done ?_
  rcases bool_two (decide (32 < p0.N)) with hb2 | hb2
  ·rw [hb2]; try simp only [hb2, bb] at hR
   refine WK.condF rfl ?_
   refine WK.skip ?_
   refine WK.seq ?_
   refine WK.sr mixed ?_
   refine GX.q (.ptr 0 1) ?_
   refine GX.q (.int .i64 p0.N) ?_
   refine GX.m rfl ?_
   refine GX.done ?_
   generalize hZ_3 : F38_crossroadsref03_May_l1 p0 (fuelUp p0.N 32) p0.N = Z_3 at hR
   refine WK.forK (fun k s => ∃ (i3 : Int), fuelUp i3 32 ≤ k ∧ F38_crossroadsref03_May_l1 p0 k i3 = Z_3 ∧ s = ⟨[(1, .ptr 0 0), (3, .int .i64 i3)], [(0, .box (TPrefix.c p0))], 1⟩) (fuelUp p0.N 32) ⟨⟨[(1, .ptr 0 0), (3, .int .i64 p0.N)], [(0, .box (TPrefix.c p0))], 1⟩, Conv.keep [0] [] [1, 3] rfl rfl (viewE_cons rfl rfl (viewE_cons rfl rfl viewE_nil)) rfl rfl, p0.N, Nat.le_refl _, hZ_3, rfl⟩ ?_
   rintro k3 _ ⟨i3, hfu3, hL_3, rfl⟩ again_3 out_3 Q_3 hagain_3 hout_3 hQ_3
   refine WK.seq ?_
   refine WK.sr mixed ?_
   refine GX.m rfl ?_
   refine GX.q (.bool (decide (i3 < 32))) ?_
   refine GX.done ?_
   rcases bool_two (decide (i3 < 32)) with hb4 | hb4
   ·rw [hb4]
    unfold F38_crossroadsref03_May_l1 at hL_3; rw [hb4, cond_false] at hL_3
    refine WK.condF rfl ?_
    refine WK.exit ?_
    refine QF.exit (hout_3 _ ?_)
    subst hL_3
    try dsimp only [cond_true, cond_false] at hR
    refine WK.sr mixed ?_
    refine GX.m rfl ?_
    refine GX.done ?_
    refine WK.ret ?_
    subst hR
    exact RetQ.fr [] (.inr rfl) rfl rfl rfl rfl
   ·rw [hb4]
    obtain ⟨f3, rfl⟩ := fuel_pos hb4 hfu3
    unfold F38_crossroadsref03_May_l1 at hL_3; rw [hb4, cond_true] at hL_3; dsimp only at hL_3
    refine WK.condT rfl ?_
    refine WK.skip ?_
    refine WK.seq ?_
    refine WK.blockK (fun _ hK5 => ?_)
    refine WK.sr mixed ?_
    refine GX.q (.ptr 0 0) ?_
    refine GX.q (.int .u32 p0.A) ?_
    refine GX.m rfl ?_
    generalize hc21 : F69_crossroadsref03_Bit p0.A i3 = c21 at hL_3
    try dsimp only at hL_3
    refine GX.callp (r := .int .i64 c21) rfl rfl rfl (f69_ok p0.A i3 _ hc21) rfl rfl ?_
    refine GX.q (.bool (decide (c21 = 1))) ?_
    refine GX.done ?_
    rcases bool_two (decide (c21 = 1)) with hb6 | hb6
    ·rw [hb6]; try simp only [hb6, bb] at hL_3
     refine WK.condF rfl ?_
     refine WK.skip ?_
     refine WK.nil (QF.normal (hK5 _ ?_))
     refine WK.regx mixed ?_
     refine GX.m rfl ?_
     refine GX.q (.int .i64 (IntKind.i64.wrap (i3 + 1))) ?_
     refine GX.m rfl ?_
     refine GX.done ?_
     refine WK.nil (QF.normal ?_)
     exact hagain_3 _ f3 ⟨[(1, .ptr 0 0), (3, .int .i64 (IntKind.i64.wrap (i3 + 1)))], [(0, .box (TPrefix.c p0))], 1⟩ (Nat.lt_succ_self _) (Conv.keep [0] [] [1, 3] rfl rfl (viewE_cons rfl rfl (viewE_cons rfl rfl viewE_nil)) rfl rfl) ⟨(IntKind.i64.wrap (i3 + 1)), fuel_up hb4 (by decide) hfu3, hL_3, rfl⟩
    ·rw [hb6]; try simp only [hb6, bb] at hL_3
     refine WK.condT rfl ?_
     refine WK.sr mixed ?_
     refine GX.m rfl ?_
     refine GX.done ?_
     refine WK.ret ?_
     refine QF.ret ?_
     refine QF.ret (hQ_3 _ _ ?_)
     subst hL_3
     subst hR
     exact RetQ.fr [] (.inr rfl) rfl rfl rfl rfl
  ·rw [hb2]; try simp only [hb2, bb] at hR
   refine WK.condT rfl ?_
   refine WK.sr mixed ?_
   refine GX.m rfl ?_
   refine GX.done ?_
   refine WK.ret ?_
   subst hR
   exact RetQ.fr [] (.inr rfl) rfl rfl rfl rfl
 ·rw [hb1]; try simp only [hb1, bb] at hR
  iterate 3 refine GX.skip rfl rfl ?_
  refine GX.q (.bool true) ?_
  refine GX.done ?_
  refine WK.condT rfl ?_
  refine WK.sr mixed ?_
  refine GX.m rfl ?_
  refine GX.done ?_
  refine WK.ret ?_
  subst hR
  exact RetQ.fr [] (.inr rfl) rfl rfl rfl rfl

theorem f12_ok (x0 : TRule) (R : Bool) (hR : F12_crossroadsref07_May x0 = R) : FnOk Tryz.prog 12 [.agg (TRule.c x0)] [] 0 (.bool R) [] 0 := by
 refine FnOk.wk i12 rfl rfl ?_
 unfold F12_crossroadsref07_May at hR
 change WK _ _ _ [ac12] _ ⟨[(0, .agg (TRule.c x0))], [], 0⟩
 unfold ac12
 refine WK.sr mixed ?_
 refine GX.step (v' := .ptr 0 0) (heap' := [(0, .box (TRule.c x0))]) (next' := 1) rfl rfl rfl rfl rfl rfl rfl ?_
 refine GX.m rfl ?_
 refine GX.done ?_
 refine WK.seq ?_
 refine WK.sr mixed ?_
 refine GX.q (.ptr 0 0) ?_
 refine GX.q (.int .i64 x0.Seq) ?_
 refine GX.q (.bool (decide (x0.Seq < 1))) ?_
 refine GX.m rfl ?_
 rcases bool_two (decide (x0.Seq < 1)) with hb1 | hb1
 ·rw [hb1]; try simp only [hb1, bb] at hR
  refine GX.q (.ptr 0 0) ?_
  refine GX.q (.int .i64 x0.Seq) ?_
  iterate 2 refine GX.q (.bool (decide (65535 < x0.Seq))) ?_
  refine GX.m rfl ?_
  rcases bool_two (decide (65535 < x0.Seq)) with hb2 | hb2
  ·rw [hb2]; try simp only [hb2, bb] at hR
   refine GX.q (.ptr 0 2) ?_
   refine GX.q (.agg [.int .u32 x0.P.A, .int .i64 x0.P.N]) ?_
   generalize hc14 : F38_crossroadsref03_May x0.P = c14 at hR
   try dsimp only at hR
   refine GX.callp (r := .bool c14) rfl rfl rfl (f38_ok x0.P _ hc14) rfl rfl ?_
   iterate 2 refine GX.q (.bool (!c14)) ?_
   refine GX.done ?_
   rcases bool_two (c14) with hb3 | hb3
   ·rw [hb3]; try simp only [hb3, bb] at hR
    refine WK.condT rfl ?_
    refine WK.sr mixed ?_
    refine GX.m rfl ?_
    refine GX.done ?_
    refine WK.ret ?_
    subst hR
    exact RetQ.fr [] (.inr rfl) rfl rfl rfl rfl
   ·rw [hb3]; try simp only [hb3, bb] at hR
    refine WK.condF rfl ?_
    refine WK.skip ?_
    refine WK.seq ?_
    refine WK.sr mixed ?_
    refine GX.q (.ptr 0 4) ?_
    refine GX.q (.int .i64 x0.Ge) ?_
    refine GX.q (.bool (!decide (x0.Ge = 0))) ?_
    refine GX.m rfl ?_
    rcases bool_two (decide (x0.Ge = 0)) with hb4 | hb4
    ·rw [hb4]; try simp only [hb4, bb] at hR
     refine GX.q (.ptr 0 4) ?_
     refine GX.q (.int .i64 x0.Ge) ?_
     refine GX.q (.ptr 0 2) ?_
     refine GX.q (.ptr 0 3) ?_
     refine GX.q (.int .i64 x0.P.N) ?_
     refine GX.q (.bool (decide (x0.Ge ≤ x0.P.N))) ?_
     refine GX.m rfl ?_
     rcases bool_two (decide (x0.Ge ≤ x0.P.N)) with hb5 | hb5
     ·rw [hb5]; try simp only [hb5, bb] at hR
      refine GX.q (.ptr 0 4) ?_
      refine GX.q (.int .i64 x0.Ge) ?_
      iterate 3 refine GX.q (.bool (decide (32 < x0.Ge))) ?_
      refine GX.done ?_
      rcases bool_two (decide (32 < x0.Ge)) with hb6 | hb6
      ·rw [hb6]; try simp only [hb6, bb] at hR
       refine WK.condF rfl ?_
       refine WK.skip ?_
       refine WK.sr mixed ?_
       refine GX.q (.ptr 0 5) ?_
       refine GX.q (.int .i64 x0.Le) ?_
       refine GX.q (.bool (decide (x0.Le = 0))) ?_
       refine GX.m rfl ?_
       rcases bool_two (decide (x0.Le = 0)) with hb7 | hb7
       ·rw [hb7]; try simp only [hb7, bb] at hR
        refine GX.q (.ptr 0 5) ?_
        refine GX.q (.int .i64 x0.Le) ?_
        refine GX.q (.ptr 0 4) ?_
        refine GX.q (.int .i64 x0.Ge) ?_
        refine GX.q (.bool (decide (x0.Ge ≤ x0.Le))) ?_
        refine GX.m rfl ?_
        rcases bool_two (decide (x0.Ge ≤ x0.Le)) with hb8 | hb8
        ·rw [hb8]; try simp only [hb8, bb] at hR
         iterate 6 refine GX.skip rfl rfl ?_
         refine GX.q (.bool false) ?_
         refine GX.m rfl ?_
         iterate 3 refine GX.skip rfl rfl ?_
         iterate 2 refine GX.q (.bool false) ?_
         refine GX.m rfl ?_
         refine GX.done ?_
         refine WK.ret ?_
         subst hR
         exact RetQ.fr [] (.inr rfl) rfl rfl rfl rfl
        ·rw [hb8]; try simp only [hb8, bb] at hR
         refine GX.q (.ptr 0 5) ?_
         refine GX.q (.int .i64 x0.Le) ?_
         refine GX.q (.ptr 0 2) ?_
         refine GX.q (.ptr 0 3) ?_
         refine GX.q (.int .i64 x0.P.N) ?_
         iterate 2 refine GX.q (.bool (decide (x0.P.N ≤ x0.Le))) ?_
         refine GX.m rfl ?_
         rcases bool_two (decide (x0.P.N ≤ x0.Le)) with hb9 | hb9
         ·rw [hb9]; try simp only [hb9, bb] at hR
          iterate 3 refine GX.skip rfl rfl ?_
          iterate 2 refine GX.q (.bool false) ?_
          refine GX.m rfl ?_
          refine GX.done ?_
          refine WK.ret ?_
          subst hR
          exact RetQ.fr [] (.inr rfl) rfl rfl rfl rfl
         ·rw [hb9]; try simp only [hb9, bb] at hR
          refine GX.q (.ptr 0 5) ?_
          refine GX.q (.int .i64 x0.Le) ?_
          iterate 3 refine GX.q (.bool (decide (x0.Le ≤ 32))) ?_
          refine GX.m rfl ?_
          refine GX.done ?_
          refine WK.ret ?_
          subst hR
          exact RetQ.fr [] (.inr rfl) rfl rfl rfl rfl
       ·rw [hb7]; try simp only [hb7, bb] at hR
        iterate 18 refine GX.skip rfl rfl ?_
        refine GX.q (.bool true) ?_
        refine GX.m rfl ?_
        refine GX.done ?_
        refine WK.ret ?_
        subst hR
        exact RetQ.fr [] (.inr rfl) rfl rfl rfl rfl
      ·rw [hb6]; try simp only [hb6, bb] at hR
       refine WK.condT rfl ?_
       refine WK.sr mixed ?_
       refine GX.m rfl ?_
       refine GX.done ?_
       refine WK.ret ?_
       subst hR
       exact RetQ.fr [] (.inr rfl) rfl rfl rfl rfl
     ·rw [hb5]; try simp only [hb5, bb] at hR
      iterate 3 refine GX.skip rfl rfl ?_
      iterate 2 refine GX.q (.bool true) ?_
      refine GX.done ?_
      refine WK.condT rfl ?_
      refine WK.sr mixed ?_
      refine GX.m rfl ?_
      refine GX.done ?_
      refine WK.ret ?_
      subst hR
      exact RetQ.fr [] (.inr rfl) rfl rfl rfl rfl
    ·rw [hb4]; try simp only [hb4, bb] at hR
     iterate 11 refine GX.skip rfl rfl ?_
     refine GX.q (.bool false) ?_
     refine GX.done ?_
     refine WK.condF rfl ?_
     refine WK.skip ?_
     refine WK.sr mixed ?_
     refine GX.q (.ptr 0 5) ?_
     refine GX.q (.int .i64 x0.Le) ?_
     refine GX.q (.bool (decide (x0.Le = 0))) ?_
     refine GX.m rfl ?_
     rcases bool_two (decide (x0.Le = 0)) with hb10 | hb10
     ·rw [hb10]; try simp only [hb10, bb] at hR
      refine GX.q (.ptr 0 5) ?_
      refine GX.q (.int .i64 x0.Le) ?_
      refine GX.q (.ptr 0 4) ?_
      refine GX.q (.int .i64 x0.Ge) ?_
      refine GX.q (.bool (decide (x0.Ge ≤ x0.Le))) ?_
      refine GX.m rfl ?_
      rcases bool_two (decide (x0.Ge ≤ x0.Le)) with hb11 | hb11
      ·rw [hb11]; try simp only [hb11, bb] at hR
       iterate 6 refine GX.skip rfl rfl ?_
       refine GX.q (.bool false) ?_
       refine GX.m rfl ?_
       iterate 3 refine GX.skip rfl rfl ?_
       iterate 2 refine GX.q (.bool false) ?_
       refine GX.m rfl ?_
       refine GX.done ?_
       refine WK.ret ?_
       subst hR
       exact RetQ.fr [] (.inr rfl) rfl rfl rfl rfl
      ·rw [hb11]; try simp only [hb11, bb] at hR
       refine GX.q (.ptr 0 5) ?_
       refine GX.q (.int .i64 x0.Le) ?_
       refine GX.q (.ptr 0 2) ?_
       refine GX.q (.ptr 0 3) ?_
       refine GX.q (.int .i64 x0.P.N) ?_
       iterate 2 refine GX.q (.bool (decide (x0.P.N ≤ x0.Le))) ?_
       refine GX.m rfl ?_
       rcases bool_two (decide (x0.P.N ≤ x0.Le)) with hb12 | hb12
       ·rw [hb12]; try simp only [hb12, bb] at hR
        iterate 3 refine GX.skip rfl rfl ?_
        iterate 2 refine GX.q (.bool false) ?_
        refine GX.m rfl ?_
        refine GX.done ?_
        refine WK.ret ?_
        subst hR
        exact RetQ.fr [] (.inr rfl) rfl rfl rfl rfl
       ·rw [hb12]; try simp only [hb12, bb] at hR
        refine GX.q (.ptr 0 5) ?_
        refine GX.q (.int .i64 x0.Le) ?_
        iterate 3 refine GX.q (.bool (decide (x0.Le ≤ 32))) ?_
        refine GX.m rfl ?_
        refine GX.done ?_
        refine WK.ret ?_
        subst hR
        exact RetQ.fr [] (.inr rfl) rfl rfl rfl rfl
     ·rw [hb10]; try simp only [hb10, bb] at hR
      iterate 18 refine GX.skip rfl rfl ?_
      refine GX.q (.bool true) ?_
      refine GX.m rfl ?_
      refine GX.done ?_
      refine WK.ret ?_
      subst hR
      exact RetQ.fr [] (.inr rfl) rfl rfl rfl rfl
  ·rw [hb2]; try simp only [hb2, bb] at hR
   iterate 4 refine GX.skip rfl rfl ?_
   refine GX.q (.bool true) ?_
   refine GX.done ?_
   refine WK.condT rfl ?_
   refine WK.sr mixed ?_
   refine GX.m rfl ?_
   refine GX.done ?_
   refine WK.ret ?_
   subst hR
   exact RetQ.fr [] (.inr rfl) rfl rfl rfl rfl
 ·rw [hb1]; try simp only [hb1, bb] at hR
  iterate 3 refine GX.skip rfl rfl ?_
  refine GX.q (.bool true) ?_
  refine GX.m rfl ?_
  iterate 4 refine GX.skip rfl rfl ?_
  refine GX.q (.bool true) ?_
  refine GX.done ?_
  refine WK.condT rfl ?_
  refine WK.sr mixed ?_
  refine GX.m rfl ?_
  refine GX.done ?_
  refine WK.ret ?_
  subst hR
  exact RetQ.fr [] (.inr rfl) rfl rfl rfl rfl

theorem f13_ok (x0 : TRule) (R : TRule) (hR : F13_crossroadslaw07_plain x0 = R) : FnOk Tryz.prog 13 [.agg (TRule.c x0)] [] 0 (.agg (TRule.c R)) [] 0 := by
 refine FnOk.wk i13 rfl rfl ?_
 unfold F13_crossroadslaw07_plain at hR
 change WK _ _ _ [ac13] _ ⟨[(0, .agg (TRule.c x0))], [], 0⟩
 unfold ac13
 refine WK.sr mixed ?_
 refine GX.step (v' := .ptr 0 0) (heap' := [(0, .box (TRule.c x0))]) (next' := 1) rfl rfl rfl rfl rfl rfl rfl ?_
 refine GX.step (v' := .ptr 1 0) (heap' := [(0, .box (TRule.c x0)), (1, .box [.int .i64 0, .bool false, .int .u32 0, .int .i64 0, .int .i64 0, .int .i64 0])]) (next' := 2) rfl rfl rfl rfl rfl rfl rfl ?_
 refine GX.done ?_
 refine WK.sr mixed ?_
 refine GX.q (.ptr 0 0) ?_
 refine GX.q (.int .i64 x0.Seq) ?_
 refine GX.q (.ptr 0 1) ?_
 refine GX.q (.bool x0.Permit) ?_
 refine GX.q (.ptr 0 2) ?_
 refine GX.q (.agg [.int .u32 x0.P.A, .int .i64 x0.P.N]) ?_
 refine GX.q (.ptr 0 4) ?_
 refine GX.q (.int .i64 x0.Ge) ?_
 refine GX.q (.ptr 0 5) ?_
 refine GX.q (.int .i64 x0.Le) ?_
 refine GX.q (.agg (TRule.c x0)) ?_
 refine GX.step0 (heap' := [(0, .box (TRule.c x0)), (1, .box (TRule.c x0))]) (next' := 2) rfl rfl rfl rfl rfl ?_
 refine GX.done ?_
 refine WK.ret ?_
 subst hR
 exact RetQ.fr [] (.inr rfl) rfl rfl rfl rfl

theorem f45_ok (s0 : ByteArray) (R : (List ByteArray)) (hR : F45_crossroadsref07_Words s0 = some R) : FnOk Tryz.prog 45 [.str s0] [] 0 (.ro 1 (R.map c_str)) [] 0 := by
 refine FnOk.wk i45 rfl rfl ?_
 unfold F45_crossroadsref07_Words at hR
 try dsimp only at hR
 change WK _ _ _ [ac45] _ ⟨[(0, .str s0)], [], 0⟩
 unfold ac45
 refine WK.sr mixed ?_
 refine GX.m rfl ?_
 refine GX.done ?_
 refine WK.sr mixed ?_
 refine GX.step (v' := .own 0 1 0 (([(bstr [])] : List ByteArray)).length) (heap' := [(0, .row 1 9 (([(bstr [])] : List ByteArray).map c_str))]) (next' := 1) rfl rfl rfl rfl rfl rfl rfl ?_
 refine GX.m rfl ?_
 refine GX.done ?_
 refine WK.seq ?_
 refine WK.sr mixed ?_
 refine GX.m rfl ?_
 refine GX.done ?_
 generalize hZ_8 : F45_crossroadsref07_Words_l1 s0 200 0 ([(bstr [])] : List ByteArray) = Z_8 at hR
 refine WK.forK (fun k s => ∃ (i4 : Int) (l3 : List ByteArray), F45_crossroadsref07_Words_l1 s0 k i4 l3 = Z_8 ∧ s = ⟨[(0, .str s0), (3, .own 0 1 0 l3.length), (4, .int .i64 i4)], [(0, .row 1 9 (l3.map c_str))], 1⟩) 200 ⟨⟨[(0, .str s0), (3, .own 0 1 0 ([(bstr [])] : List ByteArray).length), (4, .int .i64 0)], [(0, .row 1 9 (([(bstr [])] : List ByteArray).map c_str))], 1⟩, Conv.keep [0] [] [0, 3, 4] rfl rfl (viewE_cons rfl rfl (viewE_cons rfl rfl (viewE_cons rfl rfl viewE_nil))) rfl rfl, 0, ([(bstr [])] : List ByteArray), hZ_8, rfl⟩ ?_
 rintro k8 _ ⟨i4, l3, hL_8, rfl⟩ again_8 out_8 Q_8 hagain_8 hout_8 hQ_8
 rcases k8 with _ | f8
 ·unfold F45_crossroadsref07_Words_l1 at hL_8
  try dsimp only at hL_8
  subst hL_8
  try dsimp only at hR
  cases hR
 unfold F45_crossroadsref07_Words_l1 at hL_8; try dsimp only at hL_8
 refine WK.seq ?_
 refine WK.sr mixed ?_
 iterate 2 refine GX.m rfl ?_
 refine GX.q (.int .i64 (s0.size : Int)) ?_
 refine GX.q (.bool (decide (i4 < (s0.size : Int)))) ?_
 refine GX.done ?_
 rcases bool_two (decide (i4 < (s0.size : Int))) with hb9 | hb9
 ·rw [hb9]; try simp only [hb9, bb] at hL_8
  refine WK.condF rfl ?_
  refine WK.exit ?_
  refine QF.exit (hout_8 _ ?_)
  subst hL_8
  try dsimp only [cond_true, cond_false] at hR
  refine WK.sr mixed ?_
  iterate 2 refine GX.m rfl ?_
  refine GX.done ?_
  refine WK.ret ?_
  obtain rfl := Option.some.inj hR
  exact RetQ.fr [0] (.inr rfl) rfl rfl (viewGo_cons (view_rowT rfl rfl) viewGo_nil) rfl
 ·rw [hb9]; try simp only [hb9, bb] at hL_8
  refine WK.condT rfl ?_
  refine WK.skip ?_
  refine WK.seq ?_
  refine WK.blockK (fun _ hK10 => ?_)
  refine WK.sr mixed ?_
  iterate 2 refine GX.m rfl ?_
  rcases bool_two (decide ((0 : Int) ≤ i4)) with hg11 | hg11
  ·simp only [hg11, bb] at hL_8
   try dsimp only at hL_8
   subst hL_8
   try dsimp only at hR
   cases hR
  simp only [hg11, bb] at hL_8
  have hg11_ := of_decide_eq_true hg11
  refine GX.pure (v' := .int .u8 (strAt s0 i4)) rfl rfl rfl (core_idxSG (by omega) (by ((try simp only [decide_eq_true_eq, decide_eq_false_iff_not, Bool.not_eq_true, Bool.not_eq_false] at *); first | omega | (rw [wrap64_of (by omega) (by omega)]; omega) | (unfold min_ max_; (repeat' split) <;> first | omega | (rw [wrap64_of (by omega) (by omega)]; omega))))) rfl ?_
  refine GX.q (.bool (decide ((strAt s0 i4) = 32))) ?_
  refine GX.done ?_
  rcases bool_two (decide ((strAt s0 i4) = 32)) with hb12 | hb12
  ·rw [hb12]; try simp only [hb12, bb] at hL_8
   refine WK.condF rfl ?_
   refine WK.drawn mixed ?_
   iterate 2 refine RD.m rfl ?_
   refine RD.q (.int .i64 (l3.length : Int)) ?_
   refine RD.q (.int .i64 (IntKind.i64.wrap ((l3.length : Int) - 1))) ?_
   iterate 2 refine RD.m rfl ?_
   refine RD.q (.int .i64 (l3.length : Int)) ?_
   refine RD.q (.int .i64 (IntKind.i64.wrap ((l3.length : Int) - 1))) ?_
   generalize hx912 : getI l3 (IntKind.i64.wrap ((l3.length : Int) - 1)) = x912 at hL_8
   rcases x912 with _ | x912
   ·try dsimp only at hL_8
    subst hL_8
    try dsimp only at hR
    cases hR
   try dsimp only at hL_8
   obtain ⟨hx9120, hx912j, hx912l, hx912⟩ := getI_some hx912
   refine RD.pure (v' := .eptr 0 1 ((IntKind.i64.wrap ((l3.length : Int) - 1)).toNat) 0) rfl rfl rfl (core_idxoT (c := c_str) (L := l3) (j := (IntKind.i64.wrap ((l3.length : Int) - 1)).toNat) rfl hx912j hx912l (by exact Nat.le_refl _)) rfl ?_
   refine RD.pure (v' := .str x912) rfl rfl rfl (core_loaT (c := c_str) (L := l3) (x := x912) rfl hx912 rfl) rfl ?_
   iterate 3 refine RD.m rfl ?_
   refine RD.q (.int .i64 (IntKind.i64.wrap (i4 + 1))) ?_
   rcases bool_two (decide (i4 ≤ IntKind.i64.wrap (i4 + 1))) with hg14 | hg14
   ·simp only [hg14, bb] at hL_8
    try dsimp only at hL_8
    subst hL_8
    try dsimp only at hR
    cases hR
   simp only [hg14, bb] at hL_8
   have hg14_ := of_decide_eq_true hg14
   rcases bool_two (decide (IntKind.i64.wrap (i4 + 1) ≤ (s0.size : Int))) with hg15 | hg15
   ·simp only [hg15, bb] at hL_8
    try dsimp only at hL_8
    subst hL_8
    try dsimp only at hR
    cases hR
   simp only [hg15, bb] at hL_8
   have hg15_ := of_decide_eq_true hg15
   refine RD.pure (v' := .str (s0.extract i4.toNat (IntKind.i64.wrap (i4 + 1)).toNat)) rfl rfl rfl (core_sliceSLH (by omega) (by omega) (by omega)) rfl ?_
   rcases bool_two (decide (x912.size + (s0.extract i4.toNat (IntKind.i64.wrap (i4 + 1)).toNat).size ≤ 9223372036854775807)) with hg16 | hg16
   ·simp only [hg16, bb] at hL_8
    try dsimp only at hL_8
    subst hL_8
    try dsimp only at hR
    cases hR
   simp only [hg16, bb] at hL_8
   have hg16_ := of_decide_eq_true hg16
   refine RD.pure (v' := .str (x912 ++ (s0.extract i4.toNat (IntKind.i64.wrap (i4 + 1)).toNat))) rfl rfl rfl (core_addS (by omega)) rfl ?_
   refine RD.pure (v' := .eptr 0 1 ((IntKind.i64.wrap ((l3.length : Int) - 1)).toNat) 0) rfl rfl rfl (core_idxoT (c := c_str) (L := l3) (j := (IntKind.i64.wrap ((l3.length : Int) - 1)).toNat) rfl hx912j hx912l (by exact Nat.le_refl _)) rfl ?_
   refine RD.step0 (heap' := [(0, .row 1 9 ((l3.set (IntKind.i64.wrap ((l3.length : Int) - 1)).toNat (x912 ++ (s0.extract i4.toNat (IntKind.i64.wrap (i4 + 1)).toNat))).map c_str))]) (next' := 1) rfl rfl (core_stoT (c := c_str) (L := l3) (x := x912) (x' := (x912 ++ (s0.extract i4.toNat (IntKind.i64.wrap (i4 + 1)).toNat))) rfl hx912 rfl rfl rfl rfl rfl) rfl rfl ?_
   refine RD.done rfl ?_
   refine WK.nil (QF.normal (hK10 _ ?_))
   refine WK.regx mixed ?_
   refine GX.m rfl ?_
   refine GX.q (.int .i64 (IntKind.i64.wrap (i4 + 1))) ?_
   refine GX.m rfl ?_
   refine GX.done ?_
   refine WK.nil (QF.normal ?_)
   exact hagain_8 _ f8 ⟨[(0, .str s0), (3, .own 0 1 0 (l3.set (IntKind.i64.wrap ((l3.length : Int) - 1)).toNat (x912 ++ (s0.extract i4.toNat (IntKind.i64.wrap (i4 + 1)).toNat))).length), (4, .int .i64 (IntKind.i64.wrap (i4 + 1)))], [(0, .row 1 9 ((l3.set (IntKind.i64.wrap ((l3.length : Int) - 1)).toNat (x912 ++ (s0.extract i4.toNat (IntKind.i64.wrap (i4 + 1)).toNat))).map c_str))], 1⟩ (Nat.lt_succ_self _) (Conv.keep [0] [] [0, 3, 4] rfl rfl (viewE_cons rfl rfl (viewE_cons rfl (viewP_own_len rfl (by simp)) (viewE_cons rfl rfl viewE_nil))) rfl rfl) ⟨(IntKind.i64.wrap (i4 + 1)), (l3.set (IntKind.i64.wrap ((l3.length : Int) - 1)).toNat (x912 ++ (s0.extract i4.toNat (IntKind.i64.wrap (i4 + 1)).toNat))), hL_8, rfl⟩
  ·rw [hb12]; try simp only [hb12, bb] at hL_8
   refine WK.condT rfl ?_
   refine WK.regx mixed ?_
   refine GX.m rfl ?_
   refine GX.step (v' := .own 1 1 0 (([(bstr [])] : List ByteArray)).length) (heap' := [(0, .row 1 9 (l3.map c_str)), (1, .row 1 9 (([(bstr [])] : List ByteArray).map c_str))]) (next' := 2) rfl rfl rfl rfl rfl rfl rfl ?_
   rcases bool_two (decide (l3.length < 1099511627776)) with hg17 | hg17
   ·simp only [hg17, bb] at hL_8
    try dsimp only at hL_8
    subst hL_8
    try dsimp only at hR
    cases hR
   simp only [hg17, bb] at hL_8
   have hg17_ := of_decide_eq_true hg17
   refine GX.appT (c := c_str) (L := l3) (X := ([(bstr [])] : List ByteArray)) (heap' := [(1, .row 1 9 (([(bstr [])] : List ByteArray).map c_str)), (2, .row 1 9 ((l3 ++ ([(bstr [])] : List ByteArray)).map c_str))]) (next' := 3) rfl rfl rfl rfl (elems_own rfl) (by ((try simp only [List.length_append, List.length_cons, List.length_nil, List.length_map, decide_eq_true_eq, decide_eq_false_iff_not] at *) <;> omega)) (by ((try simp only [List.length_append, List.length_cons, List.length_nil, List.length_map, decide_eq_true_eq, decide_eq_false_iff_not] at *) <;> omega)) rfl rfl rfl rfl ?_
   refine GX.m rfl ?_
   refine GX.done ?_
   refine WK.nil (QF.normal (hK10 _ ?_))
   refine WK.regx mixed ?_
   refine GX.m rfl ?_
   refine GX.q (.int .i64 (IntKind.i64.wrap (i4 + 1))) ?_
   refine GX.m rfl ?_
   refine GX.done ?_
   refine WK.nil (QF.normal ?_)
   exact hagain_8 _ f8 ⟨[(0, .str s0), (3, .own 0 1 0 (l3 ++ ([(bstr [])] : List ByteArray)).length), (4, .int .i64 (IntKind.i64.wrap (i4 + 1)))], [(0, .row 1 9 ((l3 ++ ([(bstr [])] : List ByteArray)).map c_str))], 1⟩ (Nat.lt_succ_self _) (Conv.keep [2] [] [0, 3, 4] rfl rfl (viewE_cons rfl rfl (viewE_cons rfl rfl (viewE_cons rfl rfl viewE_nil))) rfl rfl) ⟨(IntKind.i64.wrap (i4 + 1)), (l3 ++ ([(bstr [])] : List ByteArray)), hL_8, rfl⟩

theorem f46_ok (s0 : ByteArray) (R : Int) (hR : F46_crossroadsref07_Number s0 = some R) : FnOk Tryz.prog 46 [.str s0] [] 0 (.int .i64 R) [] 0 := by
 refine FnOk.wk i46 rfl rfl ?_
 unfold F46_crossroadsref07_Number at hR
 try dsimp only at hR
 change WK _ _ _ [ac46] _ ⟨[(0, .str s0)], [], 0⟩
 unfold ac46
 refine WK.sr mixed ?_
 refine GX.m rfl ?_
 refine GX.done ?_
 refine WK.sr mixed ?_
 refine GX.m rfl ?_
 refine GX.done ?_
 refine WK.seq ?_
 refine WK.sr mixed ?_
 refine GX.m rfl ?_
 refine GX.done ?_
 generalize hZ_7 : F46_crossroadsref07_Number_l1 s0 100 0 0 = Z_7 at hR
 refine WK.forK (fun k s => ∃ (n3 : Int) (i4 : Int), F46_crossroadsref07_Number_l1 s0 k n3 i4 = Z_7 ∧ s = ⟨[(0, .str s0), (3, .int .i64 n3), (4, .int .i64 i4)], [], 0⟩) 100 ⟨⟨[(0, .str s0), (3, .int .i64 0), (4, .int .i64 0)], [], 0⟩, Conv.keep [] [] [0, 3, 4] rfl rfl (viewE_cons rfl rfl (viewE_cons rfl rfl (viewE_cons rfl rfl viewE_nil))) rfl rfl, 0, 0, hZ_7, rfl⟩ ?_
 rintro k7 _ ⟨n3, i4, hL_7, rfl⟩ again_7 out_7 Q_7 hagain_7 hout_7 hQ_7
 rcases k7 with _ | f7
 ·unfold F46_crossroadsref07_Number_l1 at hL_7
  try dsimp only at hL_7
  subst hL_7
  try dsimp only at hR
  cases hR
 unfold F46_crossroadsref07_Number_l1 at hL_7; try dsimp only at hL_7
 refine WK.seq ?_
 refine WK.sr mixed ?_
 iterate 2 refine GX.m rfl ?_
 refine GX.q (.int .i64 (s0.size : Int)) ?_
 refine GX.q (.bool (decide (i4 < (s0.size : Int)))) ?_
 refine GX.done ?_
 rcases bool_two (decide (i4 < (s0.size : Int))) with hb8 | hb8
 ·rw [hb8]; try simp only [hb8, bb] at hL_7
  refine WK.condF rfl ?_
  refine WK.exit ?_
  refine QF.exit (hout_7 _ ?_)
  subst hL_7
  try dsimp only [cond_true, cond_false] at hR
  refine WK.sr mixed ?_
  iterate 2 refine GX.m rfl ?_
  refine GX.done ?_
  refine WK.ret ?_
  obtain rfl := Option.some.inj hR
  exact RetQ.fr [] (.inr rfl) rfl rfl rfl rfl
 ·rw [hb8]; try simp only [hb8, bb] at hL_7
  refine WK.condT rfl ?_
  refine WK.skip ?_
  refine WK.seq ?_
  refine WK.blockK (fun _ hK9 => ?_)
  refine WK.seq ?_
  refine WK.sr mixed ?_
  iterate 2 refine GX.m rfl ?_
  rcases bool_two (decide ((0 : Int) ≤ i4)) with hg10 | hg10
  ·simp only [hg10, bb] at hL_7
   try dsimp only at hL_7
   subst hL_7
   try dsimp only at hR
   cases hR
  simp only [hg10, bb] at hL_7
  have hg10_ := of_decide_eq_true hg10
  refine GX.pure (v' := .int .u8 (strAt s0 i4)) rfl rfl rfl (core_idxSG (by omega) (by ((try simp only [decide_eq_true_eq, decide_eq_false_iff_not, Bool.not_eq_true, Bool.not_eq_false] at *); first | omega | (rw [wrap64_of (by omega) (by omega)]; omega) | (unfold min_ max_; (repeat' split) <;> first | omega | (rw [wrap64_of (by omega) (by omega)]; omega))))) rfl ?_
  refine GX.q (.bool (decide ((strAt s0 i4) < 48))) ?_
  refine GX.m rfl ?_
  rcases bool_two (decide ((strAt s0 i4) < 48)) with hb11 | hb11
  ·rw [hb11]; try simp only [hb11, bb] at hL_7
   iterate 2 refine GX.m rfl ?_
   refine GX.pure (v' := .int .u8 (strAt s0 i4)) rfl rfl rfl (core_idxSG (by omega) (by ((try simp only [decide_eq_true_eq, decide_eq_false_iff_not, Bool.not_eq_true, Bool.not_eq_false] at *); first | omega | (rw [wrap64_of (by omega) (by omega)]; omega) | (unfold min_ max_; (repeat' split) <;> first | omega | (rw [wrap64_of (by omega) (by omega)]; omega))))) rfl ?_
   iterate 2 refine GX.q (.bool (decide (57 < (strAt s0 i4)))) ?_
   refine GX.m rfl ?_
   rcases bool_two (decide (57 < (strAt s0 i4))) with hb12 | hb12
   ·rw [hb12]; try simp only [hb12, bb] at hL_7
    refine GX.m rfl ?_
    refine GX.q (.bool (decide (i4 = 0))) ?_
    refine GX.m rfl ?_
    rcases bool_two (decide (i4 = 0)) with hb13 | hb13
    ·rw [hb13]; try simp only [hb13, bb] at hL_7
     iterate 4 refine GX.skip rfl rfl ?_
     iterate 2 refine GX.q (.bool false) ?_
     iterate 2 refine GX.m rfl ?_
     iterate 2 refine GX.q (.bool (decide (4 < i4))) ?_
     refine GX.done ?_
     rcases bool_two (decide (4 < i4)) with hb14 | hb14
     ·rw [hb14]; try simp only [hb14, bb] at hL_7
      refine WK.condF rfl ?_
      refine WK.skip ?_
      refine WK.regx mixed ?_
      refine GX.m rfl ?_
      refine GX.q (.int .i64 (IntKind.i64.wrap (n3 * 10))) ?_
      iterate 2 refine GX.m rfl ?_
      refine GX.pure (v' := .int .u8 (strAt s0 i4)) rfl rfl rfl (core_idxSG (by omega) (by ((try simp only [decide_eq_true_eq, decide_eq_false_iff_not, Bool.not_eq_true, Bool.not_eq_false] at *); first | omega | (rw [wrap64_of (by omega) (by omega)]; omega) | (unfold min_ max_; (repeat' split) <;> first | omega | (rw [wrap64_of (by omega) (by omega)]; omega))))) rfl ?_
      refine GX.q (.int .u8 (IntKind.u8.wrap ((strAt s0 i4) - 48))) ?_
      refine GX.q (.int .i64 (IntKind.i64.wrap (IntKind.u8.wrap ((strAt s0 i4) - 48)))) ?_
      refine GX.q (.int .i64 (IntKind.i64.wrap ((IntKind.i64.wrap (n3 * 10)) + (IntKind.i64.wrap (IntKind.u8.wrap ((strAt s0 i4) - 48)))))) ?_
      refine GX.m rfl ?_
      refine GX.done ?_
      refine WK.nil (QF.normal (hK9 _ ?_))
      refine WK.regx mixed ?_
      refine GX.m rfl ?_
      refine GX.q (.int .i64 (IntKind.i64.wrap (i4 + 1))) ?_
      refine GX.m rfl ?_
      refine GX.done ?_
      refine WK.nil (QF.normal ?_)
      exact hagain_7 _ f7 ⟨[(0, .str s0), (3, .int .i64 (IntKind.i64.wrap ((IntKind.i64.wrap (n3 * 10)) + (IntKind.i64.wrap (IntKind.u8.wrap ((strAt s0 i4) - 48)))))), (4, .int .i64 (IntKind.i64.wrap (i4 + 1)))], [], 0⟩ (Nat.lt_succ_self _) (Conv.keep [] [] [0, 3, 4] rfl rfl (viewE_cons rfl rfl (viewE_cons rfl rfl (viewE_cons rfl rfl viewE_nil))) rfl rfl) ⟨(IntKind.i64.wrap ((IntKind.i64.wrap (n3 * 10)) + (IntKind.i64.wrap (IntKind.u8.wrap ((strAt s0 i4) - 48))))), (IntKind.i64.wrap (i4 + 1)), hL_7, rfl⟩
     ·rw [hb14]; try simp only [hb14, bb] at hL_7
      refine WK.condT rfl ?_
      refine WK.sr mixed ?_
      refine GX.m rfl ?_
      refine GX.done ?_
      refine WK.ret ?_
      refine QF.ret ?_
      refine QF.ret (hQ_7 _ _ ?_)
      subst hL_7
      try dsimp only at hR
      obtain rfl := Option.some.inj hR
      exact RetQ.fr [] (.inr rfl) rfl rfl rfl rfl
    ·rw [hb13]; try simp only [hb13, bb] at hL_7
     iterate 2 refine GX.m rfl ?_
     refine GX.pure (v' := .int .u8 (strAt s0 i4)) rfl rfl rfl (core_idxSG (by omega) (by ((try simp only [decide_eq_true_eq, decide_eq_false_iff_not, Bool.not_eq_true, Bool.not_eq_false] at *); first | omega | (rw [wrap64_of (by omega) (by omega)]; omega) | (unfold min_ max_; (repeat' split) <;> first | omega | (rw [wrap64_of (by omega) (by omega)]; omega))))) rfl ?_
     iterate 3 refine GX.q (.bool (decide ((strAt s0 i4) = 48))) ?_
     refine GX.m rfl ?_
     rcases bool_two (decide ((strAt s0 i4) = 48)) with hb15 | hb15
     ·rw [hb15]; try simp only [hb15, bb] at hL_7
      refine GX.m rfl ?_
      iterate 2 refine GX.q (.bool (decide (4 < i4))) ?_
      refine GX.done ?_
      rcases bool_two (decide (4 < i4)) with hb16 | hb16
      ·rw [hb16]; try simp only [hb16, bb] at hL_7
       refine WK.condF rfl ?_
       refine WK.skip ?_
       refine WK.regx mixed ?_
       refine GX.m rfl ?_
       refine GX.q (.int .i64 (IntKind.i64.wrap (n3 * 10))) ?_
       iterate 2 refine GX.m rfl ?_
       refine GX.pure (v' := .int .u8 (strAt s0 i4)) rfl rfl rfl (core_idxSG (by omega) (by ((try simp only [decide_eq_true_eq, decide_eq_false_iff_not, Bool.not_eq_true, Bool.not_eq_false] at *); first | omega | (rw [wrap64_of (by omega) (by omega)]; omega) | (unfold min_ max_; (repeat' split) <;> first | omega | (rw [wrap64_of (by omega) (by omega)]; omega))))) rfl ?_
       refine GX.q (.int .u8 (IntKind.u8.wrap ((strAt s0 i4) - 48))) ?_
       refine GX.q (.int .i64 (IntKind.i64.wrap (IntKind.u8.wrap ((strAt s0 i4) - 48)))) ?_
       refine GX.q (.int .i64 (IntKind.i64.wrap ((IntKind.i64.wrap (n3 * 10)) + (IntKind.i64.wrap (IntKind.u8.wrap ((strAt s0 i4) - 48)))))) ?_
       refine GX.m rfl ?_
       refine GX.done ?_
       refine WK.nil (QF.normal (hK9 _ ?_))
       refine WK.regx mixed ?_
       refine GX.m rfl ?_
       refine GX.q (.int .i64 (IntKind.i64.wrap (i4 + 1))) ?_
       refine GX.m rfl ?_
       refine GX.done ?_
       refine WK.nil (QF.normal ?_)
       exact hagain_7 _ f7 ⟨[(0, .str s0), (3, .int .i64 (IntKind.i64.wrap ((IntKind.i64.wrap (n3 * 10)) + (IntKind.i64.wrap (IntKind.u8.wrap ((strAt s0 i4) - 48)))))), (4, .int .i64 (IntKind.i64.wrap (i4 + 1)))], [], 0⟩ (Nat.lt_succ_self _) (Conv.keep [] [] [0, 3, 4] rfl rfl (viewE_cons rfl rfl (viewE_cons rfl rfl (viewE_cons rfl rfl viewE_nil))) rfl rfl) ⟨(IntKind.i64.wrap ((IntKind.i64.wrap (n3 * 10)) + (IntKind.i64.wrap (IntKind.u8.wrap ((strAt s0 i4) - 48))))), (IntKind.i64.wrap (i4 + 1)), hL_7, rfl⟩
      ·rw [hb16]; try simp only [hb16, bb] at hL_7
       refine WK.condT rfl ?_
       refine WK.sr mixed ?_
       refine GX.m rfl ?_
       refine GX.done ?_
       refine WK.ret ?_
       refine QF.ret ?_
       refine QF.ret (hQ_7 _ _ ?_)
       subst hL_7
       try dsimp only at hR
       obtain rfl := Option.some.inj hR
       exact RetQ.fr [] (.inr rfl) rfl rfl rfl rfl
     ·rw [hb15]; try simp only [hb15, bb] at hL_7
      iterate 2 refine GX.skip rfl rfl ?_
      refine GX.q (.bool true) ?_
      refine GX.done ?_
      refine WK.condT rfl ?_
      refine WK.sr mixed ?_
      refine GX.m rfl ?_
      refine GX.done ?_
      refine WK.ret ?_
      refine QF.ret ?_
      refine QF.ret (hQ_7 _ _ ?_)
      subst hL_7
      try dsimp only at hR
      obtain rfl := Option.some.inj hR
      exact RetQ.fr [] (.inr rfl) rfl rfl rfl rfl
   ·rw [hb12]; try simp only [hb12, bb] at hL_7
    iterate 8 refine GX.skip rfl rfl ?_
    refine GX.q (.bool true) ?_
    refine GX.m rfl ?_
    iterate 2 refine GX.skip rfl rfl ?_
    refine GX.q (.bool true) ?_
    refine GX.done ?_
    refine WK.condT rfl ?_
    refine WK.sr mixed ?_
    refine GX.m rfl ?_
    refine GX.done ?_
    refine WK.ret ?_
    refine QF.ret ?_
    refine QF.ret (hQ_7 _ _ ?_)
    subst hL_7
    try dsimp only at hR
    obtain rfl := Option.some.inj hR
    exact RetQ.fr [] (.inr rfl) rfl rfl rfl rfl
  ·rw [hb11]; try simp only [hb11, bb] at hL_7
   iterate 4 refine GX.skip rfl rfl ?_
   refine GX.q (.bool true) ?_
   refine GX.m rfl ?_
   iterate 8 refine GX.skip rfl rfl ?_
   refine GX.q (.bool true) ?_
   refine GX.m rfl ?_
   iterate 2 refine GX.skip rfl rfl ?_
   refine GX.q (.bool true) ?_
   refine GX.done ?_
   refine WK.condT rfl ?_
   refine WK.sr mixed ?_
   refine GX.m rfl ?_
   refine GX.done ?_
   refine WK.ret ?_
   refine QF.ret ?_
   refine QF.ret (hQ_7 _ _ ?_)
   subst hL_7
   try dsimp only at hR
   obtain rfl := Option.some.inj hR
   exact RetQ.fr [] (.inr rfl) rfl rfl rfl rfl

theorem f73_ok (s0 : ByteArray) (most1 : Int) (R : Int × Int) (hR : F73_crossroadsref03_number s0 most1 = some R) : FnOk Tryz.prog 73 [.str s0, .int .i64 most1] [] 0 (.tup [.int .i64 R.1, .int .i64 R.2]) [] 0 := by
 refine FnOk.wk i73 rfl rfl ?_
 unfold F73_crossroadsref03_number at hR
 try dsimp only at hR
 change WK _ _ _ [ac73] _ ⟨[(0, .str s0), (1, .int .i64 most1)], [], 0⟩
 unfold ac73
 refine WK.sr mixed ?_
 iterate 2 refine GX.m rfl ?_
 refine GX.done ?_
 refine WK.sr mixed ?_
 iterate 2 refine GX.m rfl ?_
 refine GX.done ?_
 refine WK.seq ?_
 generalize hZ_6 : F73_crossroadsref03_number_l1 s0 100 0 0 = Z_6 at hR
 refine WK.forK (fun k s => ∃ (n6 : Int) (k7 : Int), F73_crossroadsref03_number_l1 s0 k n6 k7 = Z_6 ∧ s = ⟨[(0, .str s0), (1, .int .i64 most1), (6, .int .i64 n6), (7, .int .i64 k7)], [], 0⟩) 100 ⟨⟨[(0, .str s0), (1, .int .i64 most1), (6, .int .i64 0), (7, .int .i64 0)], [], 0⟩, Conv.keep [] [] [0, 1, 6, 7] rfl rfl (viewE_cons rfl rfl (viewE_cons rfl rfl (viewE_cons rfl rfl (viewE_cons rfl rfl viewE_nil)))) rfl rfl, 0, 0, hZ_6, rfl⟩ ?_
 rintro k6 _ ⟨n6, k7, hL_6, rfl⟩ again_6 out_6 Q_6 hagain_6 hout_6 hQ_6
 rcases k6 with _ | f6
 ·unfold F73_crossroadsref03_number_l1 at hL_6
  try dsimp only at hL_6
  subst hL_6
  try dsimp only at hR
  cases hR
 unfold F73_crossroadsref03_number_l1 at hL_6; try dsimp only at hL_6
 refine WK.seq ?_
 refine WK.sr mixed ?_
 iterate 2 refine GX.m rfl ?_
 refine GX.q (.int .i64 (s0.size : Int)) ?_
 refine GX.q (.bool (decide (k7 < (s0.size : Int)))) ?_
 refine GX.m rfl ?_
 rcases bool_two (decide (k7 < (s0.size : Int))) with hb7 | hb7
 ·rw [hb7]; try simp only [hb7, bb] at hL_6
  iterate 4 refine GX.skip rfl rfl ?_
  refine GX.q (.bool false) ?_
  refine GX.m rfl ?_
  iterate 4 refine GX.skip rfl rfl ?_
  refine GX.q (.bool false) ?_
  refine GX.m rfl ?_
  iterate 2 refine GX.skip rfl rfl ?_
  refine GX.q (.bool false) ?_
  refine GX.done ?_
  refine WK.condF rfl ?_
  refine WK.exit ?_
  refine QF.exit (hout_6 _ ?_)
  subst hL_6
  try dsimp only [cond_true, cond_false] at hR
  refine WK.seq ?_
  refine WK.sr mixed ?_
  refine GX.m rfl ?_
  refine GX.q (.bool (decide (k7 = 0))) ?_
  refine GX.m rfl ?_
  rcases bool_two (decide (k7 = 0)) with hb8 | hb8
  ·rw [hb8]; first | replace hR := cond_f hb8 hR | (try simp only [hb8, bb] at hR)
   refine GX.m rfl ?_
   refine GX.q (.bool (decide (1 < k7))) ?_
   refine GX.m rfl ?_
   rcases bool_two (decide (1 < k7)) with hb9 | hb9
   ·rw [hb9]; first | replace hR := cond_f hb9 hR | (try simp only [hb9, bb] at hR)
    iterate 3 refine GX.skip rfl rfl ?_
    iterate 2 refine GX.q (.bool false) ?_
    iterate 3 refine GX.m rfl ?_
    iterate 2 refine GX.q (.bool (decide (most1 < n6))) ?_
    refine GX.done ?_
    rcases bool_two (decide (most1 < n6)) with hb10 | hb10
    ·rw [hb10]; first | replace hR := cond_f hb10 hR | (try simp only [hb10, bb] at hR)
     refine WK.condF rfl ?_
     refine WK.skip ?_
     refine WK.sr mixed ?_
     iterate 4 refine GX.m rfl ?_
     refine GX.done ?_
     refine WK.ret ?_
     obtain rfl := Option.some.inj hR
     exact RetQ.fr [] (.inr rfl) rfl rfl rfl rfl
    ·rw [hb10]; first | replace hR := cond_t hb10 hR | (try simp only [hb10, bb] at hR)
     refine WK.condT rfl ?_
     refine WK.sr mixed ?_
     iterate 2 refine GX.m rfl ?_
     refine GX.done ?_
     refine WK.ret ?_
     obtain rfl := Option.some.inj hR
     exact RetQ.fr [] (.inr rfl) rfl rfl rfl rfl
   ·rw [hb9]; first | replace hR := cond_t hb9 hR | (try simp only [hb9, bb] at hR)
    refine GX.m rfl ?_
    rcases bool_two (decide ((0 : Int) < (s0.size : Int))) with hg11 | hg11
    ·simp only [hg11, bb] at hR
     try dsimp only at hR
     cases hR
    simp only [hg11, bb] at hR
    have hg11_ := of_decide_eq_true hg11
    refine GX.pure (v' := .int .u8 (strAt s0 0)) rfl rfl rfl (core_idxSG (by omega) (by omega)) rfl ?_
    iterate 3 refine GX.q (.bool (decide ((strAt s0 0) = 48))) ?_
    refine GX.m rfl ?_
    rcases bool_two (decide ((strAt s0 0) = 48)) with hb12 | hb12
    ·rw [hb12]; first | replace hR := cond_f hb12 hR | (try simp only [hb12, bb] at hR)
     iterate 2 refine GX.m rfl ?_
     iterate 2 refine GX.q (.bool (decide (most1 < n6))) ?_
     refine GX.done ?_
     rcases bool_two (decide (most1 < n6)) with hb13 | hb13
     ·rw [hb13]; first | replace hR := cond_f hb13 hR | (try simp only [hb13, bb] at hR)
      refine WK.condF rfl ?_
      refine WK.skip ?_
      refine WK.sr mixed ?_
      iterate 4 refine GX.m rfl ?_
      refine GX.done ?_
      refine WK.ret ?_
      obtain rfl := Option.some.inj hR
      exact RetQ.fr [] (.inr rfl) rfl rfl rfl rfl
     ·rw [hb13]; first | replace hR := cond_t hb13 hR | (try simp only [hb13, bb] at hR)
      refine WK.condT rfl ?_
      refine WK.sr mixed ?_
      iterate 2 refine GX.m rfl ?_
      refine GX.done ?_
      refine WK.ret ?_
      obtain rfl := Option.some.inj hR
      exact RetQ.fr [] (.inr rfl) rfl rfl rfl rfl
    ·rw [hb12]; first | replace hR := cond_t hb12 hR | (try simp only [hb12, bb] at hR)
     iterate 3 refine GX.skip rfl rfl ?_
     refine GX.q (.bool true) ?_
     refine GX.done ?_
     refine WK.condT rfl ?_
     refine WK.sr mixed ?_
     iterate 2 refine GX.m rfl ?_
     refine GX.done ?_
     refine WK.ret ?_
     obtain rfl := Option.some.inj hR
     exact RetQ.fr [] (.inr rfl) rfl rfl rfl rfl
  ·rw [hb8]; first | replace hR := cond_t hb8 hR | (try simp only [hb8, bb] at hR)
   iterate 7 refine GX.skip rfl rfl ?_
   refine GX.q (.bool true) ?_
   refine GX.m rfl ?_
   iterate 3 refine GX.skip rfl rfl ?_
   refine GX.q (.bool true) ?_
   refine GX.done ?_
   refine WK.condT rfl ?_
   refine WK.sr mixed ?_
   iterate 2 refine GX.m rfl ?_
   refine GX.done ?_
   refine WK.ret ?_
   obtain rfl := Option.some.inj hR
   exact RetQ.fr [] (.inr rfl) rfl rfl rfl rfl
 ·rw [hb7]; try simp only [hb7, bb] at hL_6
  iterate 2 refine GX.m rfl ?_
  rcases bool_two (decide ((0 : Int) ≤ k7)) with hg14 | hg14
  ·simp only [hg14, bb] at hL_6
   try dsimp only at hL_6
   subst hL_6
   try dsimp only at hR
   cases hR
  simp only [hg14, bb] at hL_6
  have hg14_ := of_decide_eq_true hg14
  refine GX.pure (v' := .int .u8 (strAt s0 k7)) rfl rfl rfl (core_idxSG (by omega) (by ((try simp only [decide_eq_true_eq, decide_eq_false_iff_not, Bool.not_eq_true, Bool.not_eq_false] at *); first | omega | (rw [wrap64_of (by omega) (by omega)]; omega) | (unfold min_ max_; (repeat' split) <;> first | omega | (rw [wrap64_of (by omega) (by omega)]; omega))))) rfl ?_
  iterate 2 refine GX.q (.bool (decide (48 ≤ (strAt s0 k7)))) ?_
  refine GX.m rfl ?_
  rcases bool_two (decide (48 ≤ (strAt s0 k7))) with hb15 | hb15
  ·rw [hb15]; try simp only [hb15, bb] at hL_6
   iterate 4 refine GX.skip rfl rfl ?_
   refine GX.q (.bool false) ?_
   refine GX.m rfl ?_
   iterate 2 refine GX.skip rfl rfl ?_
   refine GX.q (.bool false) ?_
   refine GX.done ?_
   refine WK.condF rfl ?_
   refine WK.exit ?_
   refine QF.exit (hout_6 _ ?_)
   subst hL_6
   try dsimp only [cond_true, cond_false] at hR
   refine WK.seq ?_
   refine WK.sr mixed ?_
   refine GX.m rfl ?_
   refine GX.q (.bool (decide (k7 = 0))) ?_
   refine GX.m rfl ?_
   rcases bool_two (decide (k7 = 0)) with hb16 | hb16
   ·rw [hb16]; first | replace hR := cond_f hb16 hR | (try simp only [hb16, bb] at hR)
    refine GX.m rfl ?_
    refine GX.q (.bool (decide (1 < k7))) ?_
    refine GX.m rfl ?_
    rcases bool_two (decide (1 < k7)) with hb17 | hb17
    ·rw [hb17]; first | replace hR := cond_f hb17 hR | (try simp only [hb17, bb] at hR)
     iterate 3 refine GX.skip rfl rfl ?_
     iterate 2 refine GX.q (.bool false) ?_
     iterate 3 refine GX.m rfl ?_
     iterate 2 refine GX.q (.bool (decide (most1 < n6))) ?_
     refine GX.done ?_
     rcases bool_two (decide (most1 < n6)) with hb18 | hb18
     ·rw [hb18]; first | replace hR := cond_f hb18 hR | (try simp only [hb18, bb] at hR)
      refine WK.condF rfl ?_
      refine WK.skip ?_
      refine WK.sr mixed ?_
      iterate 4 refine GX.m rfl ?_
      refine GX.done ?_
      refine WK.ret ?_
      obtain rfl := Option.some.inj hR
      exact RetQ.fr [] (.inr rfl) rfl rfl rfl rfl
     ·rw [hb18]; first | replace hR := cond_t hb18 hR | (try simp only [hb18, bb] at hR)
      refine WK.condT rfl ?_
      refine WK.sr mixed ?_
      iterate 2 refine GX.m rfl ?_
      refine GX.done ?_
      refine WK.ret ?_
      obtain rfl := Option.some.inj hR
      exact RetQ.fr [] (.inr rfl) rfl rfl rfl rfl
    ·rw [hb17]; first | replace hR := cond_t hb17 hR | (try simp only [hb17, bb] at hR)
     refine GX.m rfl ?_
     rcases bool_two (decide ((0 : Int) < (s0.size : Int))) with hg19 | hg19
     ·simp only [hg19, bb] at hR
      try dsimp only at hR
      cases hR
     simp only [hg19, bb] at hR
     have hg19_ := of_decide_eq_true hg19
     refine GX.pure (v' := .int .u8 (strAt s0 0)) rfl rfl rfl (core_idxSG (by omega) (by omega)) rfl ?_
     iterate 3 refine GX.q (.bool (decide ((strAt s0 0) = 48))) ?_
     refine GX.m rfl ?_
     rcases bool_two (decide ((strAt s0 0) = 48)) with hb20 | hb20
     ·rw [hb20]; first | replace hR := cond_f hb20 hR | (try simp only [hb20, bb] at hR)
      iterate 2 refine GX.m rfl ?_
      iterate 2 refine GX.q (.bool (decide (most1 < n6))) ?_
      refine GX.done ?_
      rcases bool_two (decide (most1 < n6)) with hb21 | hb21
      ·rw [hb21]; first | replace hR := cond_f hb21 hR | (try simp only [hb21, bb] at hR)
       refine WK.condF rfl ?_
       refine WK.skip ?_
       refine WK.sr mixed ?_
       iterate 4 refine GX.m rfl ?_
       refine GX.done ?_
       refine WK.ret ?_
       obtain rfl := Option.some.inj hR
       exact RetQ.fr [] (.inr rfl) rfl rfl rfl rfl
      ·rw [hb21]; first | replace hR := cond_t hb21 hR | (try simp only [hb21, bb] at hR)
       refine WK.condT rfl ?_
       refine WK.sr mixed ?_
       iterate 2 refine GX.m rfl ?_
       refine GX.done ?_
       refine WK.ret ?_
       obtain rfl := Option.some.inj hR
       exact RetQ.fr [] (.inr rfl) rfl rfl rfl rfl
     ·rw [hb20]; first | replace hR := cond_t hb20 hR | (try simp only [hb20, bb] at hR)
      iterate 3 refine GX.skip rfl rfl ?_
      refine GX.q (.bool true) ?_
      refine GX.done ?_
      refine WK.condT rfl ?_
      refine WK.sr mixed ?_
      iterate 2 refine GX.m rfl ?_
      refine GX.done ?_
      refine WK.ret ?_
      obtain rfl := Option.some.inj hR
      exact RetQ.fr [] (.inr rfl) rfl rfl rfl rfl
   ·rw [hb16]; first | replace hR := cond_t hb16 hR | (try simp only [hb16, bb] at hR)
    iterate 7 refine GX.skip rfl rfl ?_
    refine GX.q (.bool true) ?_
    refine GX.m rfl ?_
    iterate 3 refine GX.skip rfl rfl ?_
    refine GX.q (.bool true) ?_
    refine GX.done ?_
    refine WK.condT rfl ?_
    refine WK.sr mixed ?_
    iterate 2 refine GX.m rfl ?_
    refine GX.done ?_
    refine WK.ret ?_
    obtain rfl := Option.some.inj hR
    exact RetQ.fr [] (.inr rfl) rfl rfl rfl rfl
  ·rw [hb15]; try simp only [hb15, bb] at hL_6
   iterate 2 refine GX.m rfl ?_
   refine GX.pure (v' := .int .u8 (strAt s0 k7)) rfl rfl rfl (core_idxSG (by omega) (by ((try simp only [decide_eq_true_eq, decide_eq_false_iff_not, Bool.not_eq_true, Bool.not_eq_false] at *); first | omega | (rw [wrap64_of (by omega) (by omega)]; omega) | (unfold min_ max_; (repeat' split) <;> first | omega | (rw [wrap64_of (by omega) (by omega)]; omega))))) rfl ?_
   iterate 2 refine GX.q (.bool (decide ((strAt s0 k7) ≤ 57))) ?_
   refine GX.m rfl ?_
   rcases bool_two (decide ((strAt s0 k7) ≤ 57)) with hb22 | hb22
   ·rw [hb22]; try simp only [hb22, bb] at hL_6
    iterate 2 refine GX.skip rfl rfl ?_
    refine GX.q (.bool false) ?_
    refine GX.done ?_
    refine WK.condF rfl ?_
    refine WK.exit ?_
    refine QF.exit (hout_6 _ ?_)
    subst hL_6
    try dsimp only [cond_true, cond_false] at hR
    refine WK.seq ?_
    refine WK.sr mixed ?_
    refine GX.m rfl ?_
    refine GX.q (.bool (decide (k7 = 0))) ?_
    refine GX.m rfl ?_
    rcases bool_two (decide (k7 = 0)) with hb23 | hb23
    ·rw [hb23]; first | replace hR := cond_f hb23 hR | (try simp only [hb23, bb] at hR)
     refine GX.m rfl ?_
     refine GX.q (.bool (decide (1 < k7))) ?_
     refine GX.m rfl ?_
     rcases bool_two (decide (1 < k7)) with hb24 | hb24
     ·rw [hb24]; first | replace hR := cond_f hb24 hR | (try simp only [hb24, bb] at hR)
      iterate 3 refine GX.skip rfl rfl ?_
      iterate 2 refine GX.q (.bool false) ?_
      iterate 3 refine GX.m rfl ?_
      iterate 2 refine GX.q (.bool (decide (most1 < n6))) ?_
      refine GX.done ?_
      rcases bool_two (decide (most1 < n6)) with hb25 | hb25
      ·rw [hb25]; first | replace hR := cond_f hb25 hR | (try simp only [hb25, bb] at hR)
       refine WK.condF rfl ?_
       refine WK.skip ?_
       refine WK.sr mixed ?_
       iterate 4 refine GX.m rfl ?_
       refine GX.done ?_
       refine WK.ret ?_
       obtain rfl := Option.some.inj hR
       exact RetQ.fr [] (.inr rfl) rfl rfl rfl rfl
      ·rw [hb25]; first | replace hR := cond_t hb25 hR | (try simp only [hb25, bb] at hR)
       refine WK.condT rfl ?_
       refine WK.sr mixed ?_
       iterate 2 refine GX.m rfl ?_
       refine GX.done ?_
       refine WK.ret ?_
       obtain rfl := Option.some.inj hR
       exact RetQ.fr [] (.inr rfl) rfl rfl rfl rfl
     ·rw [hb24]; first | replace hR := cond_t hb24 hR | (try simp only [hb24, bb] at hR)
      refine GX.m rfl ?_
      rcases bool_two (decide ((0 : Int) < (s0.size : Int))) with hg26 | hg26
      ·simp only [hg26, bb] at hR
       try dsimp only at hR
       cases hR
      simp only [hg26, bb] at hR
      have hg26_ := of_decide_eq_true hg26
      refine GX.pure (v' := .int .u8 (strAt s0 0)) rfl rfl rfl (core_idxSG (by omega) (by omega)) rfl ?_
      iterate 3 refine GX.q (.bool (decide ((strAt s0 0) = 48))) ?_
      refine GX.m rfl ?_
      rcases bool_two (decide ((strAt s0 0) = 48)) with hb27 | hb27
      ·rw [hb27]; first | replace hR := cond_f hb27 hR | (try simp only [hb27, bb] at hR)
       iterate 2 refine GX.m rfl ?_
       iterate 2 refine GX.q (.bool (decide (most1 < n6))) ?_
       refine GX.done ?_
       rcases bool_two (decide (most1 < n6)) with hb28 | hb28
       ·rw [hb28]; first | replace hR := cond_f hb28 hR | (try simp only [hb28, bb] at hR)
        refine WK.condF rfl ?_
        refine WK.skip ?_
        refine WK.sr mixed ?_
        iterate 4 refine GX.m rfl ?_
        refine GX.done ?_
        refine WK.ret ?_
        obtain rfl := Option.some.inj hR
        exact RetQ.fr [] (.inr rfl) rfl rfl rfl rfl
       ·rw [hb28]; first | replace hR := cond_t hb28 hR | (try simp only [hb28, bb] at hR)
        refine WK.condT rfl ?_
        refine WK.sr mixed ?_
        iterate 2 refine GX.m rfl ?_
        refine GX.done ?_
        refine WK.ret ?_
        obtain rfl := Option.some.inj hR
        exact RetQ.fr [] (.inr rfl) rfl rfl rfl rfl
      ·rw [hb27]; first | replace hR := cond_t hb27 hR | (try simp only [hb27, bb] at hR)
       iterate 3 refine GX.skip rfl rfl ?_
       refine GX.q (.bool true) ?_
       refine GX.done ?_
       refine WK.condT rfl ?_
       refine WK.sr mixed ?_
       iterate 2 refine GX.m rfl ?_
       refine GX.done ?_
       refine WK.ret ?_
       obtain rfl := Option.some.inj hR
       exact RetQ.fr [] (.inr rfl) rfl rfl rfl rfl
    ·rw [hb23]; first | replace hR := cond_t hb23 hR | (try simp only [hb23, bb] at hR)
     iterate 7 refine GX.skip rfl rfl ?_
     refine GX.q (.bool true) ?_
     refine GX.m rfl ?_
     iterate 3 refine GX.skip rfl rfl ?_
     refine GX.q (.bool true) ?_
     refine GX.done ?_
     refine WK.condT rfl ?_
     refine WK.sr mixed ?_
     iterate 2 refine GX.m rfl ?_
     refine GX.done ?_
     refine WK.ret ?_
     obtain rfl := Option.some.inj hR
     exact RetQ.fr [] (.inr rfl) rfl rfl rfl rfl
   ·rw [hb22]; try simp only [hb22, bb] at hL_6
    refine GX.m rfl ?_
    iterate 2 refine GX.q (.bool (decide (k7 < 4))) ?_
    refine GX.done ?_
    rcases bool_two (decide (k7 < 4)) with hb29 | hb29
    ·rw [hb29]; try simp only [hb29, bb] at hL_6
     refine WK.condF rfl ?_
     refine WK.exit ?_
     refine QF.exit (hout_6 _ ?_)
     subst hL_6
     try dsimp only [cond_true, cond_false] at hR
     refine WK.seq ?_
     refine WK.sr mixed ?_
     refine GX.m rfl ?_
     refine GX.q (.bool (decide (k7 = 0))) ?_
     refine GX.m rfl ?_
     rcases bool_two (decide (k7 = 0)) with hb30 | hb30
     ·rw [hb30]; first | replace hR := cond_f hb30 hR | (try simp only [hb30, bb] at hR)
      refine GX.m rfl ?_
      refine GX.q (.bool (decide (1 < k7))) ?_
      refine GX.m rfl ?_
      rcases bool_two (decide (1 < k7)) with hb31 | hb31
      ·rw [hb31]; first | replace hR := cond_f hb31 hR | (try simp only [hb31, bb] at hR)
       iterate 3 refine GX.skip rfl rfl ?_
       iterate 2 refine GX.q (.bool false) ?_
       iterate 3 refine GX.m rfl ?_
       iterate 2 refine GX.q (.bool (decide (most1 < n6))) ?_
       refine GX.done ?_
       rcases bool_two (decide (most1 < n6)) with hb32 | hb32
       ·rw [hb32]; first | replace hR := cond_f hb32 hR | (try simp only [hb32, bb] at hR)
        refine WK.condF rfl ?_
        refine WK.skip ?_
        refine WK.sr mixed ?_
        iterate 4 refine GX.m rfl ?_
        refine GX.done ?_
        refine WK.ret ?_
        obtain rfl := Option.some.inj hR
        exact RetQ.fr [] (.inr rfl) rfl rfl rfl rfl
       ·rw [hb32]; first | replace hR := cond_t hb32 hR | (try simp only [hb32, bb] at hR)
        refine WK.condT rfl ?_
        refine WK.sr mixed ?_
        iterate 2 refine GX.m rfl ?_
        refine GX.done ?_
        refine WK.ret ?_
        obtain rfl := Option.some.inj hR
        exact RetQ.fr [] (.inr rfl) rfl rfl rfl rfl
      ·rw [hb31]; first | replace hR := cond_t hb31 hR | (try simp only [hb31, bb] at hR)
       refine GX.m rfl ?_
       rcases bool_two (decide ((0 : Int) < (s0.size : Int))) with hg33 | hg33
       ·simp only [hg33, bb] at hR
        try dsimp only at hR
        cases hR
       simp only [hg33, bb] at hR
       have hg33_ := of_decide_eq_true hg33
       refine GX.pure (v' := .int .u8 (strAt s0 0)) rfl rfl rfl (core_idxSG (by omega) (by omega)) rfl ?_
       iterate 3 refine GX.q (.bool (decide ((strAt s0 0) = 48))) ?_
       refine GX.m rfl ?_
       rcases bool_two (decide ((strAt s0 0) = 48)) with hb34 | hb34
       ·rw [hb34]; first | replace hR := cond_f hb34 hR | (try simp only [hb34, bb] at hR)
        iterate 2 refine GX.m rfl ?_
        iterate 2 refine GX.q (.bool (decide (most1 < n6))) ?_
        refine GX.done ?_
        rcases bool_two (decide (most1 < n6)) with hb35 | hb35
        ·rw [hb35]; first | replace hR := cond_f hb35 hR | (try simp only [hb35, bb] at hR)
         refine WK.condF rfl ?_
         refine WK.skip ?_
         refine WK.sr mixed ?_
         iterate 4 refine GX.m rfl ?_
         refine GX.done ?_
         refine WK.ret ?_
         obtain rfl := Option.some.inj hR
         exact RetQ.fr [] (.inr rfl) rfl rfl rfl rfl
        ·rw [hb35]; first | replace hR := cond_t hb35 hR | (try simp only [hb35, bb] at hR)
         refine WK.condT rfl ?_
         refine WK.sr mixed ?_
         iterate 2 refine GX.m rfl ?_
         refine GX.done ?_
         refine WK.ret ?_
         obtain rfl := Option.some.inj hR
         exact RetQ.fr [] (.inr rfl) rfl rfl rfl rfl
       ·rw [hb34]; first | replace hR := cond_t hb34 hR | (try simp only [hb34, bb] at hR)
        iterate 3 refine GX.skip rfl rfl ?_
        refine GX.q (.bool true) ?_
        refine GX.done ?_
        refine WK.condT rfl ?_
        refine WK.sr mixed ?_
        iterate 2 refine GX.m rfl ?_
        refine GX.done ?_
        refine WK.ret ?_
        obtain rfl := Option.some.inj hR
        exact RetQ.fr [] (.inr rfl) rfl rfl rfl rfl
     ·rw [hb30]; first | replace hR := cond_t hb30 hR | (try simp only [hb30, bb] at hR)
      iterate 7 refine GX.skip rfl rfl ?_
      refine GX.q (.bool true) ?_
      refine GX.m rfl ?_
      iterate 3 refine GX.skip rfl rfl ?_
      refine GX.q (.bool true) ?_
      refine GX.done ?_
      refine WK.condT rfl ?_
      refine WK.sr mixed ?_
      iterate 2 refine GX.m rfl ?_
      refine GX.done ?_
      refine WK.ret ?_
      obtain rfl := Option.some.inj hR
      exact RetQ.fr [] (.inr rfl) rfl rfl rfl rfl
    ·rw [hb29]; try simp only [hb29, bb] at hL_6
     refine WK.condT rfl ?_
     refine WK.skip ?_
     refine WK.blockK (fun _ hK36 => ?_)
     refine WK.sr mixed ?_
     refine GX.m rfl ?_
     refine GX.q (.int .i64 (IntKind.i64.wrap (n6 * 10))) ?_
     iterate 2 refine GX.m rfl ?_
     refine GX.pure (v' := .int .u8 (strAt s0 k7)) rfl rfl rfl (core_idxSG (by omega) (by ((try simp only [decide_eq_true_eq, decide_eq_false_iff_not, Bool.not_eq_true, Bool.not_eq_false] at *); first | omega | (rw [wrap64_of (by omega) (by omega)]; omega) | (unfold min_ max_; (repeat' split) <;> first | omega | (rw [wrap64_of (by omega) (by omega)]; omega))))) rfl ?_
     refine GX.q (.int .u8 (IntKind.u8.wrap ((strAt s0 k7) - 48))) ?_
     refine GX.q (.int .i64 (IntKind.i64.wrap (IntKind.u8.wrap ((strAt s0 k7) - 48)))) ?_
     refine GX.q (.int .i64 (IntKind.i64.wrap ((IntKind.i64.wrap (n6 * 10)) + (IntKind.i64.wrap (IntKind.u8.wrap ((strAt s0 k7) - 48)))))) ?_
     refine GX.m rfl ?_
     refine GX.done ?_
     refine WK.regx mixed ?_
     refine GX.m rfl ?_
     refine GX.q (.int .i64 (IntKind.i64.wrap (k7 + 1))) ?_
     refine GX.m rfl ?_
     refine GX.done ?_
     refine WK.nil (QF.normal (hK36 _ ?_))
     refine WK.nil (QF.normal ?_)
     exact hagain_6 _ f6 ⟨[(0, .str s0), (1, .int .i64 most1), (6, .int .i64 (IntKind.i64.wrap ((IntKind.i64.wrap (n6 * 10)) + (IntKind.i64.wrap (IntKind.u8.wrap ((strAt s0 k7) - 48)))))), (7, .int .i64 (IntKind.i64.wrap (k7 + 1)))], [], 0⟩ (Nat.lt_succ_self _) (Conv.keep [] [] [0, 1, 6, 7] rfl rfl (viewE_cons rfl rfl (viewE_cons rfl rfl (viewE_cons rfl rfl (viewE_cons rfl rfl viewE_nil)))) rfl rfl) ⟨(IntKind.i64.wrap ((IntKind.i64.wrap (n6 * 10)) + (IntKind.i64.wrap (IntKind.u8.wrap ((strAt s0 k7) - 48))))), (IntKind.i64.wrap (k7 + 1)), hL_6, rfl⟩

theorem f47_ok (s0 : ByteArray) (R : TPrefix × Int) (hR : F47_crossroadsref03_Parse s0 = some R) : FnOk Tryz.prog 47 [.str s0] [] 0 (.tup [.agg (TPrefix.c R.1), .int .i64 R.2]) [] 0 := by
 refine FnOk.wk i47 rfl rfl ?_
 unfold F47_crossroadsref03_Parse at hR
 try dsimp only at hR
 change WK _ _ _ [ac47] _ ⟨[(0, .str s0)], [], 0⟩
 unfold ac47
 refine WK.sr mixed ?_
 refine GX.step (v' := .ptr 0 0) (heap' := [(0, .box [.int .u32 0, .int .i64 0])]) (next' := 1) rfl rfl rfl rfl rfl rfl rfl ?_
 refine GX.m rfl ?_
 refine GX.done ?_
 refine WK.sr mixed ?_
 refine GX.m rfl ?_
 refine GX.done ?_
 refine WK.seq ?_
 refine WK.sr mixed ?_
 refine GX.m rfl ?_
 refine GX.done ?_
 generalize hZ_10 : F47_crossroadsref03_Parse_l1 100 s0 0 0 = Z_10 at hR
 refine WK.forK (fun k s => ∃ (s0x : ByteArray) (a4 : Int) (i5 : Int), F47_crossroadsref03_Parse_l1 k s0x a4 i5 = Z_10 ∧ s = ⟨[(0, .str s0x), (2, .ptr 0 0), (4, .int .u32 a4), (5, .int .i64 i5)], [(0, .box [.int .u32 0, .int .i64 0])], 1⟩) 100 ⟨⟨[(0, .str s0), (2, .ptr 0 0), (4, .int .u32 0), (5, .int .i64 0)], [(0, .box [.int .u32 0, .int .i64 0])], 1⟩, Conv.keep [0] [] [0, 2, 4, 5] rfl rfl (viewE_cons rfl rfl (viewE_cons rfl rfl (viewE_cons rfl rfl (viewE_cons rfl rfl viewE_nil)))) rfl rfl, s0, 0, 0, hZ_10, rfl⟩ ?_
 rintro k10 _ ⟨s0x, a4, i5, hL_10, rfl⟩ again_10 out_10 Q_10 hagain_10 hout_10 hQ_10
 rcases k10 with _ | f10
 ·unfold F47_crossroadsref03_Parse_l1 at hL_10
  try dsimp only at hL_10
  subst hL_10
  try dsimp only at hR
  cases hR
 unfold F47_crossroadsref03_Parse_l1 at hL_10; try dsimp only at hL_10
 refine WK.seq ?_
 refine WK.sr mixed ?_
 refine GX.m rfl ?_
 refine GX.q (.bool (decide (i5 < 4))) ?_
 refine GX.done ?_
 rcases bool_two (decide (i5 < 4)) with hb11 | hb11
 ·rw [hb11]; try simp only [hb11, bb] at hL_10
  refine WK.condF rfl ?_
  refine WK.exit ?_
  refine QF.exit (hout_10 _ ?_)
  subst hL_10
  try dsimp only [cond_true, cond_false] at hR
  refine WK.sr mixed ?_
  refine GX.m rfl ?_
  generalize hc50 : F73_crossroadsref03_number s0x 32 = c50 at hR
  rcases c50 with _ | c50
  ·try dsimp only at hR
   cases hR
  try dsimp only at hR
  obtain ⟨c50a, c50b⟩ := c50; try dsimp only at hR
  refine GX.callp (r := .tup [.int .i64 c50a, .int .i64 c50b]) rfl rfl rfl (f73_ok s0x 32 _ hc50) rfl rfl ?_
  refine GX.m rfl ?_
  refine GX.q (.int .i64 c50a) ?_
  refine GX.q (.int .i64 c50b) ?_
  iterate 2 refine GX.m rfl ?_
  refine GX.done ?_
  refine WK.seq ?_
  refine WK.sr mixed ?_
  refine GX.m rfl ?_
  refine GX.q (.bool (decide (c50b = 0))) ?_
  refine GX.m rfl ?_
  rcases bool_two (decide (c50b = 0)) with hb12 | hb12
  ·rw [hb12]; first | replace hR := cond_f hb12 hR | (try simp only [hb12, bb] at hR)
   iterate 2 refine GX.m rfl ?_
   refine GX.q (.int .i64 (s0x.size : Int)) ?_
   iterate 2 refine GX.q (.bool (!decide (c50b = (s0x.size : Int)))) ?_
   refine GX.done ?_
   rcases bool_two (decide (c50b = (s0x.size : Int))) with hb13 | hb13
   ·rw [hb13]; first | replace hR := cond_f hb13 hR | (try simp only [hb13, bb] at hR)
    refine WK.condT rfl ?_
    refine WK.sr mixed ?_
    refine GX.q (.agg [.int .u32 0, .int .i64 0]) ?_
    refine GX.step0 (heap' := [(0, .box [.int .u32 0, .int .i64 0])]) (next' := 1) rfl rfl rfl rfl rfl ?_
    refine GX.m rfl ?_
    refine GX.done ?_
    refine WK.ret ?_
    obtain rfl := Option.some.inj hR
    exact RetQ.fr [] (.inr rfl) rfl rfl rfl rfl
   ·rw [hb13]; first | replace hR := cond_t hb13 hR | (try simp only [hb13, bb] at hR)
    refine WK.condF rfl ?_
    refine WK.skip ?_
    refine WK.sr mixed ?_
    iterate 2 refine GX.m rfl ?_
    refine GX.q (.agg [.int .u32 a4, .int .i64 c50a]) ?_
    refine GX.step (v' := .ptr 1 0) (heap' := [(0, .box [.int .u32 0, .int .i64 0]), (1, .box [.int .u32 0, .int .i64 0])]) (next' := 2) rfl rfl rfl rfl rfl rfl rfl ?_
    refine GX.step0 (heap' := [(0, .box [.int .u32 0, .int .i64 0]), (1, .box [.int .u32 a4, .int .i64 c50a])]) (next' := 2) rfl rfl rfl rfl rfl ?_
    refine GX.done ?_
    refine WK.seq ?_
    refine WK.sr mixed ?_
    refine GX.q (.agg [.int .u32 a4, .int .i64 c50a]) ?_
    generalize hc66 : F38_crossroadsref03_May (⟨a4, c50a⟩ : TPrefix) = c66 at hR
    try dsimp only at hR
    refine GX.callp (r := .bool c66) rfl rfl rfl (f38_ok (⟨a4, c50a⟩ : TPrefix) _ hc66) rfl rfl ?_
    refine GX.q (.bool (!c66)) ?_
    refine GX.done ?_
    rcases bool_two (c66) with hb14 | hb14
    ·rw [hb14]; first | replace hR := cond_f hb14 hR | (try simp only [hb14, bb] at hR)
     refine WK.condT rfl ?_
     refine WK.sr mixed ?_
     refine GX.q (.agg [.int .u32 0, .int .i64 0]) ?_
     refine GX.step0 (heap' := [(0, .box [.int .u32 0, .int .i64 0]), (1, .box [.int .u32 a4, .int .i64 c50a])]) (next' := 2) rfl rfl rfl rfl rfl ?_
     refine GX.m rfl ?_
     refine GX.done ?_
     refine WK.ret ?_
     obtain rfl := Option.some.inj hR
     exact RetQ.fr [] (.inr rfl) rfl rfl rfl rfl
    ·rw [hb14]; first | replace hR := cond_t hb14 hR | (try simp only [hb14, bb] at hR)
     refine WK.condF rfl ?_
     refine WK.skip ?_
     refine WK.sr mixed ?_
     refine GX.q (.agg [.int .u32 a4, .int .i64 c50a]) ?_
     refine GX.step0 (heap' := [(0, .box [.int .u32 a4, .int .i64 c50a]), (1, .box [.int .u32 a4, .int .i64 c50a])]) (next' := 2) rfl rfl rfl rfl rfl ?_
     refine GX.m rfl ?_
     refine GX.done ?_
     refine WK.ret ?_
     obtain rfl := Option.some.inj hR
     exact RetQ.fr [] (.inr rfl) rfl rfl rfl rfl
  ·rw [hb12]; first | replace hR := cond_t hb12 hR | (try simp only [hb12, bb] at hR)
   iterate 4 refine GX.skip rfl rfl ?_
   refine GX.q (.bool true) ?_
   refine GX.done ?_
   refine WK.condT rfl ?_
   refine WK.sr mixed ?_
   refine GX.q (.agg [.int .u32 0, .int .i64 0]) ?_
   refine GX.step0 (heap' := [(0, .box [.int .u32 0, .int .i64 0])]) (next' := 1) rfl rfl rfl rfl rfl ?_
   refine GX.m rfl ?_
   refine GX.done ?_
   refine WK.ret ?_
   obtain rfl := Option.some.inj hR
   exact RetQ.fr [] (.inr rfl) rfl rfl rfl rfl
 ·rw [hb11]; try simp only [hb11, bb] at hL_10
  refine WK.condT rfl ?_
  refine WK.skip ?_
  refine WK.seq ?_
  refine WK.blockK (fun _ hK15 => ?_)
  refine WK.sr mixed ?_
  refine GX.m rfl ?_
  generalize hc18 : F73_crossroadsref03_number s0x 255 = c18 at hL_10
  rcases c18 with _ | c18
  ·try dsimp only at hL_10
   subst hL_10
   try dsimp only at hR
   cases hR
  try dsimp only at hL_10
  obtain ⟨c18a, c18b⟩ := c18; try dsimp only at hL_10
  refine GX.callp (r := .tup [.int .i64 c18a, .int .i64 c18b]) rfl rfl rfl (f73_ok s0x 255 _ hc18) rfl rfl ?_
  refine GX.m rfl ?_
  refine GX.q (.int .i64 c18a) ?_
  refine GX.q (.int .i64 c18b) ?_
  iterate 2 refine GX.m rfl ?_
  refine GX.done ?_
  refine WK.sr mixed ?_
  refine GX.m rfl ?_
  refine GX.done ?_
  refine WK.seq ?_
  refine WK.sr mixed ?_
  refine GX.m rfl ?_
  refine GX.q (.bool (decide (i5 = 3))) ?_
  refine GX.done ?_
  rcases bool_two (decide (i5 = 3)) with hb16 | hb16
  ·rw [hb16]; try simp only [hb16, bb] at hL_10
   refine WK.condF rfl ?_
   refine WK.skip ?_
   refine WK.seq ?_
   refine WK.sr mixed ?_
   refine GX.m rfl ?_
   refine GX.q (.bool (decide (c18b = 0))) ?_
   refine GX.m rfl ?_
   rcases bool_two (decide (c18b = 0)) with hb17 | hb17
   ·rw [hb17]; try simp only [hb17, bb] at hL_10
    iterate 2 refine GX.m rfl ?_
    refine GX.q (.int .i64 (s0x.size : Int)) ?_
    iterate 2 refine GX.q (.bool (decide ((s0x.size : Int) ≤ c18b))) ?_
    refine GX.m rfl ?_
    rcases bool_two (decide ((s0x.size : Int) ≤ c18b)) with hb18 | hb18
    ·rw [hb18]; try simp only [hb18, bb] at hL_10
     iterate 2 refine GX.m rfl ?_
     rcases bool_two (decide ((0 : Int) ≤ c18b)) with hg19 | hg19
     ·simp only [hg19, bb] at hL_10
      try dsimp only at hL_10
      subst hL_10
      try dsimp only at hR
      cases hR
     simp only [hg19, bb] at hL_10
     have hg19_ := of_decide_eq_true hg19
     rcases bool_two (decide (c18b < (s0x.size : Int))) with hg20 | hg20
     ·simp only [hg20, bb] at hL_10
      try dsimp only at hL_10
      subst hL_10
      try dsimp only at hR
      cases hR
     simp only [hg20, bb] at hL_10
     have hg20_ := of_decide_eq_true hg20
     refine GX.pure (v' := .int .u8 (strAt s0x c18b)) rfl rfl rfl (core_idxSG (by omega) (by omega)) rfl ?_
     refine GX.m rfl ?_
     iterate 2 refine GX.q (.bool (!decide ((strAt s0x c18b) = 46))) ?_
     refine GX.done ?_
     rcases bool_two (decide ((strAt s0x c18b) = 46)) with hb21 | hb21
     ·rw [hb21]; try simp only [hb21, bb] at hL_10
      refine WK.condT rfl ?_
      refine WK.sr mixed ?_
      refine GX.q (.agg [.int .u32 0, .int .i64 0]) ?_
      refine GX.step0 (heap' := [(0, .box [.int .u32 0, .int .i64 0])]) (next' := 1) rfl rfl rfl rfl rfl ?_
      refine GX.m rfl ?_
      refine GX.done ?_
      refine WK.ret ?_
      refine QF.ret ?_
      refine QF.ret (hQ_10 _ _ ?_)
      subst hL_10
      try dsimp only at hR
      obtain rfl := Option.some.inj hR
      exact RetQ.fr [] (.inr rfl) rfl rfl rfl rfl
     ·rw [hb21]; try simp only [hb21, bb] at hL_10
      refine WK.condF rfl ?_
      refine WK.skip ?_
      refine WK.sr mixed ?_
      refine GX.m rfl ?_
      refine GX.q (.int .u32 (IntKind.u32.wrap (a4 * 256))) ?_
      refine GX.m rfl ?_
      refine GX.q (.int .u32 (IntKind.u32.wrap c18a)) ?_
      refine GX.q (.int .u32 (IntKind.u32.wrap ((IntKind.u32.wrap (a4 * 256)) + (IntKind.u32.wrap c18a)))) ?_
      refine GX.m rfl ?_
      refine GX.done ?_
      refine WK.regx mixed ?_
      iterate 2 refine GX.m rfl ?_
      refine GX.q (.int .i64 (IntKind.i64.wrap (c18b + 1))) ?_
      rcases bool_two (decide ((0 : Int) ≤ IntKind.i64.wrap (c18b + 1))) with hg22 | hg22
      ·simp only [hg22, bb] at hL_10
       try dsimp only at hL_10
       subst hL_10
       try dsimp only at hR
       cases hR
      simp only [hg22, bb] at hL_10
      have hg22_ := of_decide_eq_true hg22
      rcases bool_two (decide (IntKind.i64.wrap (c18b + 1) ≤ (s0x.size : Int))) with hg23 | hg23
      ·simp only [hg23, bb] at hL_10
       try dsimp only at hL_10
       subst hL_10
       try dsimp only at hR
       cases hR
      simp only [hg23, bb] at hL_10
      have hg23_ := of_decide_eq_true hg23
      refine GX.pure (v' := .str (s0x.extract (IntKind.i64.wrap (c18b + 1)).toNat s0x.size)) rfl rfl rfl (core_sliceSLo (by omega) (by omega)) rfl ?_
      refine GX.m rfl ?_
      refine GX.done ?_
      refine WK.nil (QF.normal (hK15 _ ?_))
      refine WK.regx mixed ?_
      refine GX.m rfl ?_
      refine GX.q (.int .i64 (IntKind.i64.wrap (i5 + 1))) ?_
      refine GX.m rfl ?_
      refine GX.done ?_
      refine WK.nil (QF.normal ?_)
      exact hagain_10 _ f10 ⟨[(0, .str (s0x.extract (IntKind.i64.wrap (c18b + 1)).toNat s0x.size)), (2, .ptr 0 0), (4, .int .u32 (IntKind.u32.wrap ((IntKind.u32.wrap (a4 * 256)) + (IntKind.u32.wrap c18a)))), (5, .int .i64 (IntKind.i64.wrap (i5 + 1)))], [(0, .box [.int .u32 0, .int .i64 0])], 1⟩ (Nat.lt_succ_self _) (Conv.keep [0] [] [0, 2, 4, 5] rfl rfl (viewE_cons rfl rfl (viewE_cons rfl rfl (viewE_cons rfl rfl (viewE_cons rfl rfl viewE_nil)))) rfl rfl) ⟨(s0x.extract (IntKind.i64.wrap (c18b + 1)).toNat s0x.size), (IntKind.u32.wrap ((IntKind.u32.wrap (a4 * 256)) + (IntKind.u32.wrap c18a))), (IntKind.i64.wrap (i5 + 1)), hL_10, rfl⟩
    ·rw [hb18]; try simp only [hb18, bb] at hL_10
     iterate 5 refine GX.skip rfl rfl ?_
     refine GX.q (.bool true) ?_
     refine GX.done ?_
     refine WK.condT rfl ?_
     refine WK.sr mixed ?_
     refine GX.q (.agg [.int .u32 0, .int .i64 0]) ?_
     refine GX.step0 (heap' := [(0, .box [.int .u32 0, .int .i64 0])]) (next' := 1) rfl rfl rfl rfl rfl ?_
     refine GX.m rfl ?_
     refine GX.done ?_
     refine WK.ret ?_
     refine QF.ret ?_
     refine QF.ret (hQ_10 _ _ ?_)
     subst hL_10
     try dsimp only at hR
     obtain rfl := Option.some.inj hR
     exact RetQ.fr [] (.inr rfl) rfl rfl rfl rfl
   ·rw [hb17]; try simp only [hb17, bb] at hL_10
    iterate 4 refine GX.skip rfl rfl ?_
    refine GX.q (.bool true) ?_
    refine GX.m rfl ?_
    iterate 5 refine GX.skip rfl rfl ?_
    refine GX.q (.bool true) ?_
    refine GX.done ?_
    refine WK.condT rfl ?_
    refine WK.sr mixed ?_
    refine GX.q (.agg [.int .u32 0, .int .i64 0]) ?_
    refine GX.step0 (heap' := [(0, .box [.int .u32 0, .int .i64 0])]) (next' := 1) rfl rfl rfl rfl rfl ?_
    refine GX.m rfl ?_
    refine GX.done ?_
    refine WK.ret ?_
    refine QF.ret ?_
    refine QF.ret (hQ_10 _ _ ?_)
    subst hL_10
    try dsimp only at hR
    obtain rfl := Option.some.inj hR
    exact RetQ.fr [] (.inr rfl) rfl rfl rfl rfl
  ·rw [hb16]; try simp only [hb16, bb] at hL_10
   refine WK.condT rfl ?_
   refine WK.regx mixed ?_
   refine GX.m rfl ?_
   refine GX.done ?_
   refine WK.seq ?_
   refine WK.sr mixed ?_
   refine GX.m rfl ?_
   refine GX.q (.bool (decide (c18b = 0))) ?_
   refine GX.m rfl ?_
   rcases bool_two (decide (c18b = 0)) with hb24 | hb24
   ·rw [hb24]; try simp only [hb24, bb] at hL_10
    iterate 2 refine GX.m rfl ?_
    refine GX.q (.int .i64 (s0x.size : Int)) ?_
    iterate 2 refine GX.q (.bool (decide ((s0x.size : Int) ≤ c18b))) ?_
    refine GX.m rfl ?_
    rcases bool_two (decide ((s0x.size : Int) ≤ c18b)) with hb25 | hb25
    ·rw [hb25]; try simp only [hb25, bb] at hL_10
     iterate 2 refine GX.m rfl ?_
     rcases bool_two (decide ((0 : Int) ≤ c18b)) with hg26 | hg26
     ·simp only [hg26, bb] at hL_10
      try dsimp only at hL_10
      subst hL_10
      try dsimp only at hR
      cases hR
     simp only [hg26, bb] at hL_10
     have hg26_ := of_decide_eq_true hg26
     rcases bool_two (decide (c18b < (s0x.size : Int))) with hg27 | hg27
     ·simp only [hg27, bb] at hL_10
      try dsimp only at hL_10
      subst hL_10
      try dsimp only at hR
      cases hR
     simp only [hg27, bb] at hL_10
     have hg27_ := of_decide_eq_true hg27
     refine GX.pure (v' := .int .u8 (strAt s0x c18b)) rfl rfl rfl (core_idxSG (by omega) (by omega)) rfl ?_
     refine GX.m rfl ?_
     iterate 2 refine GX.q (.bool (!decide ((strAt s0x c18b) = 47))) ?_
     refine GX.done ?_
     rcases bool_two (decide ((strAt s0x c18b) = 47)) with hb28 | hb28
     ·rw [hb28]; try simp only [hb28, bb] at hL_10
      refine WK.condT rfl ?_
      refine WK.sr mixed ?_
      refine GX.q (.agg [.int .u32 0, .int .i64 0]) ?_
      refine GX.step0 (heap' := [(0, .box [.int .u32 0, .int .i64 0])]) (next' := 1) rfl rfl rfl rfl rfl ?_
      refine GX.m rfl ?_
      refine GX.done ?_
      refine WK.ret ?_
      refine QF.ret ?_
      refine QF.ret (hQ_10 _ _ ?_)
      subst hL_10
      try dsimp only at hR
      obtain rfl := Option.some.inj hR
      exact RetQ.fr [] (.inr rfl) rfl rfl rfl rfl
     ·rw [hb28]; try simp only [hb28, bb] at hL_10
      refine WK.condF rfl ?_
      refine WK.skip ?_
      refine WK.sr mixed ?_
      refine GX.m rfl ?_
      refine GX.q (.int .u32 (IntKind.u32.wrap (a4 * 256))) ?_
      refine GX.m rfl ?_
      refine GX.q (.int .u32 (IntKind.u32.wrap c18a)) ?_
      refine GX.q (.int .u32 (IntKind.u32.wrap ((IntKind.u32.wrap (a4 * 256)) + (IntKind.u32.wrap c18a)))) ?_
      refine GX.m rfl ?_
      refine GX.done ?_
      refine WK.regx mixed ?_
      iterate 2 refine GX.m rfl ?_
      refine GX.q (.int .i64 (IntKind.i64.wrap (c18b + 1))) ?_
      rcases bool_two (decide ((0 : Int) ≤ IntKind.i64.wrap (c18b + 1))) with hg29 | hg29
      ·simp only [hg29, bb] at hL_10
       try dsimp only at hL_10
       subst hL_10
       try dsimp only at hR
       cases hR
      simp only [hg29, bb] at hL_10
      have hg29_ := of_decide_eq_true hg29
      rcases bool_two (decide (IntKind.i64.wrap (c18b + 1) ≤ (s0x.size : Int))) with hg30 | hg30
      ·simp only [hg30, bb] at hL_10
       try dsimp only at hL_10
       subst hL_10
       try dsimp only at hR
       cases hR
      simp only [hg30, bb] at hL_10
      have hg30_ := of_decide_eq_true hg30
      refine GX.pure (v' := .str (s0x.extract (IntKind.i64.wrap (c18b + 1)).toNat s0x.size)) rfl rfl rfl (core_sliceSLo (by omega) (by omega)) rfl ?_
      refine GX.m rfl ?_
      refine GX.done ?_
      refine WK.nil (QF.normal (hK15 _ ?_))
      refine WK.regx mixed ?_
      refine GX.m rfl ?_
      refine GX.q (.int .i64 (IntKind.i64.wrap (i5 + 1))) ?_
      refine GX.m rfl ?_
      refine GX.done ?_
      refine WK.nil (QF.normal ?_)
      exact hagain_10 _ f10 ⟨[(0, .str (s0x.extract (IntKind.i64.wrap (c18b + 1)).toNat s0x.size)), (2, .ptr 0 0), (4, .int .u32 (IntKind.u32.wrap ((IntKind.u32.wrap (a4 * 256)) + (IntKind.u32.wrap c18a)))), (5, .int .i64 (IntKind.i64.wrap (i5 + 1)))], [(0, .box [.int .u32 0, .int .i64 0])], 1⟩ (Nat.lt_succ_self _) (Conv.keep [0] [] [0, 2, 4, 5] rfl rfl (viewE_cons rfl rfl (viewE_cons rfl rfl (viewE_cons rfl rfl (viewE_cons rfl rfl viewE_nil)))) rfl rfl) ⟨(s0x.extract (IntKind.i64.wrap (c18b + 1)).toNat s0x.size), (IntKind.u32.wrap ((IntKind.u32.wrap (a4 * 256)) + (IntKind.u32.wrap c18a))), (IntKind.i64.wrap (i5 + 1)), hL_10, rfl⟩
    ·rw [hb25]; try simp only [hb25, bb] at hL_10
     iterate 5 refine GX.skip rfl rfl ?_
     refine GX.q (.bool true) ?_
     refine GX.done ?_
     refine WK.condT rfl ?_
     refine WK.sr mixed ?_
     refine GX.q (.agg [.int .u32 0, .int .i64 0]) ?_
     refine GX.step0 (heap' := [(0, .box [.int .u32 0, .int .i64 0])]) (next' := 1) rfl rfl rfl rfl rfl ?_
     refine GX.m rfl ?_
     refine GX.done ?_
     refine WK.ret ?_
     refine QF.ret ?_
     refine QF.ret (hQ_10 _ _ ?_)
     subst hL_10
     try dsimp only at hR
     obtain rfl := Option.some.inj hR
     exact RetQ.fr [] (.inr rfl) rfl rfl rfl rfl
   ·rw [hb24]; try simp only [hb24, bb] at hL_10
    iterate 4 refine GX.skip rfl rfl ?_
    refine GX.q (.bool true) ?_
    refine GX.m rfl ?_
    iterate 5 refine GX.skip rfl rfl ?_
    refine GX.q (.bool true) ?_
    refine GX.done ?_
    refine WK.condT rfl ?_
    refine WK.sr mixed ?_
    refine GX.q (.agg [.int .u32 0, .int .i64 0]) ?_
    refine GX.step0 (heap' := [(0, .box [.int .u32 0, .int .i64 0])]) (next' := 1) rfl rfl rfl rfl rfl ?_
    refine GX.m rfl ?_
    refine GX.done ?_
    refine WK.ret ?_
    refine QF.ret ?_
    refine QF.ret (hQ_10 _ _ ?_)
    subst hL_10
    try dsimp only at hR
    obtain rfl := Option.some.inj hR
    exact RetQ.fr [] (.inr rfl) rfl rfl rfl rfl

end Go.Proofs.YtjcpkgnlnmajjaaGreatDoor.Abs
