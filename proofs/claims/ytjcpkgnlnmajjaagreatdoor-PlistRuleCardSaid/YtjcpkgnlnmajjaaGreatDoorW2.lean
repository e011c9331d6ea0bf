/- The functions walked: each computes its Lean function (printed by this work's own program gen.py). -/
import Derived.Test.YtjcpkgnlnmajjaaGreatDoorSb
import Derived.Test.YtjcpkgnlnmajjaaGreatDoorW1
set_option linter.unusedVariables false
set_option linter.unusedSimpArgs false
set_option maxRecDepth 10000
set_option maxHeartbeats 4000000
namespace Go.Proofs.YtjcpkgnlnmajjaaGreatDoor.Abs
open Go

theorem f3_ok (x0 : TRule) (q1 : TPrefix) (R : Bool) (hR : F3_crossroadslaw07_PlistRule x0 q1 = some R) : FnOk Tryz.prog 3 [.agg (TRule.c x0), .agg (TPrefix.c q1)] [] 0 (.bool R) [] 0 := by
 refine FnOk.wk i3 rfl rfl ?_
 unfold F3_crossroadslaw07_PlistRule at hR
 try dsimp only at hR
 change WK _ _ _ [ac3] _ ⟨[(0, .agg (TRule.c x0)), (1, .agg (TPrefix.c q1))], [], 0⟩
 unfold ac3
 refine WK.sr mixed ?_
 refine GX.step (v' := .ptr 0 0) (heap' := [(0, .box (TRule.c x0))]) (next' := 1) rfl rfl rfl rfl rfl rfl rfl ?_
 refine GX.step (v' := .ptr 1 0) (heap' := [(0, .box (TRule.c x0)), (1, .box (TPrefix.c q1))]) (next' := 2) rfl rfl rfl rfl rfl rfl rfl ?_
 refine GX.m rfl ?_
 refine GX.done ?_
 refine WK.sr mixed ?_
 refine GX.q (.agg (TRule.c x0)) ?_
 generalize hc9 : F9_plist_Text x0 = c9 at hR
 rcases c9 with _ | c9
 ·try dsimp only at hR
  cases hR
 try dsimp only at hR
 try dsimp only at hR
 refine GX.callp (r := .str c9) rfl rfl rfl (f9_ok x0 _ hc9) rfl rfl ?_
 generalize hc10 : F8_plist_Parse c9 = c10 at hR
 rcases c10 with _ | c10
 ·try dsimp only at hR
  cases hR
 try dsimp only at hR
 obtain ⟨c10a, c10b⟩ := c10; try dsimp only at hR
 refine GX.callp (r := .tup [.agg [.int .i64 c10a.Seq, .bool c10a.Permit, .int .u32 c10a.P.A, .int .i64 c10a.P.N, .int .i64 c10a.Ge, .int .i64 c10a.Le], .int .i64 c10b]) rfl rfl rfl (f8_ok c9 _ hc10) rfl rfl ?_
 refine GX.m rfl ?_
 refine GX.q (.agg [.int .i64 c10a.Seq, .bool c10a.Permit, .int .u32 c10a.P.A, .int .i64 c10a.P.N, .int .i64 c10a.Ge, .int .i64 c10a.Le]) ?_
 refine GX.q (.int .i64 c10b) ?_
 refine GX.step (v' := .ptr 2 0) (heap' := [(0, .box (TRule.c x0)), (1, .box (TPrefix.c q1)), (2, .box [.int .i64 0, .bool false, .int .u32 0, .int .i64 0, .int .i64 0, .int .i64 0])]) (next' := 3) rfl rfl rfl rfl rfl rfl rfl ?_
 refine GX.step0 (heap' := [(0, .box (TRule.c x0)), (1, .box (TPrefix.c q1)), (2, .box (TRule.c c10a))]) (next' := 3) rfl rfl rfl rfl rfl ?_
 refine GX.m rfl ?_
 refine GX.done ?_
 refine WK.seq ?_
 refine WK.sr mixed ?_
 refine GX.q (.agg (TRule.c x0)) ?_
 generalize hc14 : F10_plist_May x0 = c14 at hR
 try dsimp only at hR
 refine GX.callp (r := .bool c14) rfl rfl rfl (f10_ok x0 _ hc14) rfl rfl ?_
 refine GX.m rfl ?_
 refine GX.q (.bool (decide (c10b = 0))) ?_
 refine GX.q (.bool (!(c14 == (decide (c10b = 0))))) ?_
 refine GX.m rfl ?_
 rcases bool_two (c14 == (decide (c10b = 0))) with hb1 | hb1
 ·rw [hb1]; first | replace hR := cond_f hb1 hR | (try simp only [hb1, bb] at hR)
  iterate 7 refine GX.skip rfl rfl ?_
  refine GX.q (.bool true) ?_
  refine GX.done ?_
  refine WK.condT rfl ?_
  refine WK.sr mixed ?_
  refine GX.m rfl ?_
  refine GX.done ?_
  refine WK.ret ?_
  obtain rfl := Option.some.inj hR
  exact RetQ.fr [] (.inr rfl) rfl rfl rfl rfl
 ·rw [hb1]; first | replace hR := cond_t hb1 hR | (try simp only [hb1, bb] at hR)
  refine GX.m rfl ?_
  refine GX.q (.bool (decide (c10b = 0))) ?_
  refine GX.m rfl ?_
  rcases bool_two (decide (c10b = 0)) with hb2 | hb2
  ·rw [hb2]; first | replace hR := cond_f hb2 hR | (try simp only [hb2, bb] at hR)
   iterate 3 refine GX.skip rfl rfl ?_
   iterate 2 refine GX.q (.bool false) ?_
   refine GX.done ?_
   refine WK.condF rfl ?_
   refine WK.skip ?_
   refine WK.seq ?_
   refine WK.drawn mixed ?_
   generalize hc27 : F11_crossroadslaw07_alive = c27 at hR
   rcases c27 with _ | c27
   ·try dsimp only at hR
    cases hR
   try dsimp only at hR
   try dsimp only at hR
   refine RD.callp (r := .bool c27) rfl rfl rfl (f11_ok  _ hc27) rfl rfl ?_
   refine RD.m rfl ?_
   rcases bool_two (c27) with hb3 | hb3
   ·rw [hb3]; first | replace hR := cond_f hb3 hR | (try simp only [hb3, bb] at hR)
    iterate 6 refine RD.skip rfl rfl ?_
    refine RD.q (.bool false) ?_
    refine RD.m rfl ?_
    iterate 8 refine RD.skip rfl rfl ?_
    refine RD.q (.bool false) ?_
    refine RD.m rfl ?_
    iterate 6 refine RD.skip rfl rfl ?_
    refine RD.q (.bool false) ?_
    refine RD.m rfl ?_
    refine RD.doneB [0, 1, 3, 7, 3, 31, 63, 127, 255, 511, 1023, 1023, 4095, 1023, 16383, 1023, 65535, 131071, 262143, 524287, 1048575, 2097151, 1048575, 8388607, 16777215, 33554431, 67108863, 134217727] (by kernel_rfl) (by kernel_rfl) (by kernel_rfl) ?_
    refine WK.ret ?_
    obtain rfl := Option.some.inj hR
    exact RetQ.fr [] (.inr rfl) rfl rfl rfl rfl
   ·rw [hb3]; first | replace hR := cond_t hb3 hR | (try simp only [hb3, bb] at hR)
    refine RD.q (.agg (TRule.c x0)) ?_
    refine RD.callp (r := .bool c14) rfl rfl rfl (f10_ok x0 _ hc14) rfl rfl ?_
    refine RD.q (.agg (TRule.c x0)) ?_
    generalize hc32 : F13_crossroadslaw07_plain x0 = c32 at hR
    try dsimp only at hR
    refine RD.callp (r := .agg [.int .i64 c32.Seq, .bool c32.Permit, .int .u32 c32.P.A, .int .i64 c32.P.N, .int .i64 c32.Ge, .int .i64 c32.Le]) rfl rfl rfl (f13_ok x0 _ hc32) rfl rfl ?_
    generalize hc33 : F12_crossroadsref07_May c32 = c33 at hR
    try dsimp only at hR
    refine RD.callp (r := .bool c33) rfl rfl rfl (f12_ok c32 _ hc33) rfl rfl ?_
    iterate 2 refine RD.q (.bool (c14 == c33)) ?_
    refine RD.m rfl ?_
    rcases bool_two ((c14 == c33)) with hb4 | hb4
    ·rw [hb4]; try simp only [hb4, bb] at hR
     iterate 8 refine RD.skip rfl rfl ?_
     refine RD.q (.bool false) ?_
     refine RD.m rfl ?_
     iterate 6 refine RD.skip rfl rfl ?_
     refine RD.q (.bool false) ?_
     refine RD.m rfl ?_
     refine RD.doneB [0, 1, 3, 7, 3, 31, 63, 127, 255, 511, 1023, 1023, 4095, 1023, 16383, 1023, 65535, 131071, 262143, 524287, 1048575, 2097151, 1048575, 8388607, 16777215, 33554431, 67108863, 134217727] (by kernel_rfl) (by kernel_rfl) (by kernel_rfl) ?_
     refine WK.ret ?_
     obtain rfl := Option.some.inj hR
     exact RetQ.fr [] (.inr rfl) rfl rfl rfl rfl
    ·rw [hb4]; try simp only [hb4, bb] at hR
     refine RD.q (.agg (TRule.c x0)) ?_
     refine RD.q (.agg (TPrefix.c q1)) ?_
     generalize hc39 : F14_plist_Means x0 q1 = c39 at hR
     try dsimp only at hR
     refine RD.callp (r := .bool c39) rfl rfl rfl (f14_ok x0 q1 _ hc39) rfl rfl ?_
     refine RD.q (.agg (TRule.c x0)) ?_
     refine RD.callp (r := .agg [.int .i64 c32.Seq, .bool c32.Permit, .int .u32 c32.P.A, .int .i64 c32.P.N, .int .i64 c32.Ge, .int .i64 c32.Le]) rfl rfl rfl (f13_ok x0 _ hc32) rfl rfl ?_
     refine RD.q (.agg (TPrefix.c q1)) ?_
     generalize hc43 : F15_crossroadsref07_Means c32 q1 = c43 at hR
     try dsimp only at hR
     refine RD.callp (r := .bool c43) rfl rfl rfl (f15_ok c32 q1 _ hc43) rfl rfl ?_
     iterate 2 refine RD.q (.bool (c39 == c43)) ?_
     refine RD.m rfl ?_
     rcases bool_two ((c39 == c43)) with hb5 | hb5
     ·rw [hb5]; try simp only [hb5, bb] at hR
      iterate 6 refine RD.skip rfl rfl ?_
      refine RD.q (.bool false) ?_
      refine RD.m rfl ?_
      refine RD.doneB [0, 1, 3, 7, 3, 31, 63, 127, 255, 511, 1023, 1023, 4095, 1023, 16383, 1023, 65535, 131071, 262143, 524287, 1048575, 2097151, 1048575, 8388607, 16777215, 33554431, 67108863, 134217727] (by kernel_rfl) (by kernel_rfl) (by kernel_rfl) ?_
      refine WK.ret ?_
      obtain rfl := Option.some.inj hR
      exact RetQ.fr [] (.inr rfl) rfl rfl rfl rfl
     ·rw [hb5]; try simp only [hb5, bb] at hR
      refine RD.q (.agg (TRule.c x0)) ?_
      refine RD.callp (r := .str c9) rfl rfl rfl (f9_ok x0 _ hc9) rfl rfl ?_
      refine RD.q (.agg (TRule.c x0)) ?_
      refine RD.callp (r := .agg [.int .i64 c32.Seq, .bool c32.Permit, .int .u32 c32.P.A, .int .i64 c32.P.N, .int .i64 c32.Ge, .int .i64 c32.Le]) rfl rfl rfl (f13_ok x0 _ hc32) rfl rfl ?_
      generalize hc51 : F16_crossroadsref07_Text c32 = c51 at hR
      rcases c51 with _ | c51
      ·try dsimp only at hR
       cases hR
      try dsimp only at hR
      try dsimp only at hR
      refine RD.callp (r := .str c51) rfl rfl rfl (f16_ok c32 _ hc51) rfl rfl ?_
      iterate 2 refine RD.q (.bool (c9.toList == c51.toList)) ?_
      refine RD.m rfl ?_
      refine RD.doneB [0, 1, 3, 7, 3, 31, 63, 127, 255, 511, 1023, 1023, 4095, 1023, 16383, 1023, 65535, 131071, 262143, 524287, 1048575, 2097151, 1048575, 8388607, 16777215, 33554431, 67108863, 134217727] (by kernel_rfl) (by kernel_rfl) (by kernel_rfl) ?_
      refine WK.ret ?_
      obtain rfl := Option.some.inj hR
      exact RetQ.fr [] (.inr rfl) rfl rfl rfl rfl
  ·rw [hb2]; first | replace hR := cond_t hb2 hR | (try simp only [hb2, bb] at hR)
   refine GX.q (.agg (TRule.c c10a)) ?_
   refine GX.q (.agg (TRule.c x0)) ?_
   iterate 3 refine GX.q (.bool (!(decide (c10a.Seq = x0.Seq) && ((c10a.Permit == x0.Permit) && (decide (c10a.P.A = x0.P.A) && (decide (c10a.P.N = x0.P.N) && (decide (c10a.Ge = x0.Ge) && (decide (c10a.Le = x0.Le) && true)))))))) ?_
   refine GX.done ?_
   rcases bool_two (decide (c10a.Seq = x0.Seq) && ((c10a.Permit == x0.Permit) && (decide (c10a.P.A = x0.P.A) && (decide (c10a.P.N = x0.P.N) && (decide (c10a.Ge = x0.Ge) && (decide (c10a.Le = x0.Le) && true)))))) with hb6 | hb6
   ·rw [hb6]; first | replace hR := cond_f hb6 hR | (try simp only [hb6, bb] at hR)
    refine WK.condT rfl ?_
    refine WK.sr mixed ?_
    refine GX.m rfl ?_
    refine GX.done ?_
    refine WK.ret ?_
    obtain rfl := Option.some.inj hR
    exact RetQ.fr [] (.inr rfl) rfl rfl rfl rfl
   ·rw [hb6]; first | replace hR := cond_t hb6 hR | (try simp only [hb6, bb] at hR)
    refine WK.condF rfl ?_
    refine WK.skip ?_
    refine WK.seq ?_
    refine WK.drawn mixed ?_
    generalize hc27 : F11_crossroadslaw07_alive = c27 at hR
    rcases c27 with _ | c27
    ·try dsimp only at hR
     cases hR
    try dsimp only at hR
    try dsimp only at hR
    refine RD.callp (r := .bool c27) rfl rfl rfl (f11_ok  _ hc27) rfl rfl ?_
    refine RD.m rfl ?_
    rcases bool_two (c27) with hb7 | hb7
    ·rw [hb7]; first | replace hR := cond_f hb7 hR | (try simp only [hb7, bb] at hR)
     iterate 6 refine RD.skip rfl rfl ?_
     refine RD.q (.bool false) ?_
     refine RD.m rfl ?_
     iterate 8 refine RD.skip rfl rfl ?_
     refine RD.q (.bool false) ?_
     refine RD.m rfl ?_
     iterate 6 refine RD.skip rfl rfl ?_
     refine RD.q (.bool false) ?_
     refine RD.m rfl ?_
     refine RD.doneB [0, 1, 3, 7, 3, 31, 63, 127, 255, 511, 1023, 1023, 4095, 1023, 16383, 1023, 65535, 131071, 262143, 524287, 1048575, 2097151, 1048575, 8388607, 16777215, 33554431, 67108863, 134217727] (by kernel_rfl) (by kernel_rfl) (by kernel_rfl) ?_
     refine WK.ret ?_
     obtain rfl := Option.some.inj hR
     exact RetQ.fr [] (.inr rfl) rfl rfl rfl rfl
    ·rw [hb7]; first | replace hR := cond_t hb7 hR | (try simp only [hb7, bb] at hR)
     refine RD.q (.agg (TRule.c x0)) ?_
     refine RD.callp (r := .bool c14) rfl rfl rfl (f10_ok x0 _ hc14) rfl rfl ?_
     refine RD.q (.agg (TRule.c x0)) ?_
     generalize hc32 : F13_crossroadslaw07_plain x0 = c32 at hR
     try dsimp only at hR
     refine RD.callp (r := .agg [.int .i64 c32.Seq, .bool c32.Permit, .int .u32 c32.P.A, .int .i64 c32.P.N, .int .i64 c32.Ge, .int .i64 c32.Le]) rfl rfl rfl (f13_ok x0 _ hc32) rfl rfl ?_
     generalize hc33 : F12_crossroadsref07_May c32 = c33 at hR
     try dsimp only at hR
     refine RD.callp (r := .bool c33) rfl rfl rfl (f12_ok c32 _ hc33) rfl rfl ?_
     iterate 2 refine RD.q (.bool (c14 == c33)) ?_
     refine RD.m rfl ?_
     rcases bool_two ((c14 == c33)) with hb8 | hb8
     ·rw [hb8]; try simp only [hb8, bb] at hR
      iterate 8 refine RD.skip rfl rfl ?_
      refine RD.q (.bool false) ?_
      refine RD.m rfl ?_
      iterate 6 refine RD.skip rfl rfl ?_
      refine RD.q (.bool false) ?_
      refine RD.m rfl ?_
      refine RD.doneB [0, 1, 3, 7, 3, 31, 63, 127, 255, 511, 1023, 1023, 4095, 1023, 16383, 1023, 65535, 131071, 262143, 524287, 1048575, 2097151, 1048575, 8388607, 16777215, 33554431, 67108863, 134217727] (by kernel_rfl) (by kernel_rfl) (by kernel_rfl) ?_
      refine WK.ret ?_
      obtain rfl := Option.some.inj hR
      exact RetQ.fr [] (.inr rfl) rfl rfl rfl rfl
     ·rw [hb8]; try simp only [hb8, bb] at hR
      refine RD.q (.agg (TRule.c x0)) ?_
      refine RD.q (.agg (TPrefix.c q1)) ?_
      generalize hc39 : F14_plist_Means x0 q1 = c39 at hR
      try dsimp only at hR
      refine RD.callp (r := .bool c39) rfl rfl rfl (f14_ok x0 q1 _ hc39) rfl rfl ?_
      refine RD.q (.agg (TRule.c x0)) ?_
      refine RD.callp (r := .agg [.int .i64 c32.Seq, .bool c32.Permit, .int .u32 c32.P.A, .int .i64 c32.P.N, .int .i64 c32.Ge, .int .i64 c32.Le]) rfl rfl rfl (f13_ok x0 _ hc32) rfl rfl ?_
      refine RD.q (.agg (TPrefix.c q1)) ?_
      generalize hc43 : F15_crossroadsref07_Means c32 q1 = c43 at hR
      try dsimp only at hR
      refine RD.callp (r := .bool c43) rfl rfl rfl (f15_ok c32 q1 _ hc43) rfl rfl ?_
      iterate 2 refine RD.q (.bool (c39 == c43)) ?_
      refine RD.m rfl ?_
      rcases bool_two ((c39 == c43)) with hb9 | hb9
      ·rw [hb9]; try simp only [hb9, bb] at hR
       iterate 6 refine RD.skip rfl rfl ?_
       refine RD.q (.bool false) ?_
       refine RD.m rfl ?_
       refine RD.doneB [0, 1, 3, 7, 3, 31, 63, 127, 255, 511, 1023, 1023, 4095, 1023, 16383, 1023, 65535, 131071, 262143, 524287, 1048575, 2097151, 1048575, 8388607, 16777215, 33554431, 67108863, 134217727] (by kernel_rfl) (by kernel_rfl) (by kernel_rfl) ?_
       refine WK.ret ?_
       obtain rfl := Option.some.inj hR
       exact RetQ.fr [] (.inr rfl) rfl rfl rfl rfl
      ·rw [hb9]; try simp only [hb9, bb] at hR
       refine RD.q (.agg (TRule.c x0)) ?_
       refine RD.callp (r := .str c9) rfl rfl rfl (f9_ok x0 _ hc9) rfl rfl ?_
       refine RD.q (.agg (TRule.c x0)) ?_
       refine RD.callp (r := .agg [.int .i64 c32.Seq, .bool c32.Permit, .int .u32 c32.P.A, .int .i64 c32.P.N, .int .i64 c32.Ge, .int .i64 c32.Le]) rfl rfl rfl (f13_ok x0 _ hc32) rfl rfl ?_
       generalize hc51 : F16_crossroadsref07_Text c32 = c51 at hR
       rcases c51 with _ | c51
       ·try dsimp only at hR
        cases hR
       try dsimp only at hR
       try dsimp only at hR
       refine RD.callp (r := .str c51) rfl rfl rfl (f16_ok c32 _ hc51) rfl rfl ?_
       iterate 2 refine RD.q (.bool (c9.toList == c51.toList)) ?_
       refine RD.m rfl ?_
       refine RD.doneB [0, 1, 3, 7, 3, 31, 63, 127, 255, 511, 1023, 1023, 4095, 1023, 16383, 1023, 65535, 131071, 262143, 524287, 1048575, 2097151, 1048575, 8388607, 16777215, 33554431, 67108863, 134217727] (by kernel_rfl) (by kernel_rfl) (by kernel_rfl) ?_
       refine WK.ret ?_
       obtain rfl := Option.some.inj hR
       exact RetQ.fr [] (.inr rfl) rfl rfl rfl rfl

end Go.Proofs.YtjcpkgnlnmajjaaGreatDoor.Abs
