/- The functions walked: each computes its Lean function (printed by this work's own program gen.py). -/
import Derived.Test.YtkdhongicibhbaaDoorSb
set_option linter.unusedVariables false
set_option linter.unusedSimpArgs false
set_option maxRecDepth 10000
set_option maxHeartbeats 4000000
namespace Go.Proofs.YtkdhongicibhbaaDoor.Abs
open Go

theorem f16_ok (n0 : Int) (R : Int) (hR : F16_addr_Mask n0 = R) : FnOk Tryd.prog 16 [.int .i64 n0] [] 0 (.int .u32 R) [] 0 := by
 refine FnOk.wk i16 rfl rfl ?_
 unfold F16_addr_Mask at hR
 change WK _ _ _ [ac16] _ ⟨[(0, .int .i64 n0)], [], 0⟩
 unfold ac16
 refine WK.sr mixed ?_
 refine GX.m rfl ?_
 refine GX.done ?_
 refine WK.sr mixed ?_
 refine GX.m rfl ?_
 refine GX.q (.int .i64 (max_ n0 0)) ?_
 refine GX.q (.int .i64 (min_ (max_ n0 0) 32)) ?_
 refine GX.m rfl ?_
 refine GX.done ?_
 refine WK.sr mixed ?_
 refine GX.m rfl ?_
 refine GX.q (.int .i64 (IntKind.i64.wrap (32 - (min_ (max_ n0 0) 32)))) ?_
 refine GX.shl rfl rfl rfl (by ((try simp only [decide_eq_true_eq, decide_eq_false_iff_not, Bool.not_eq_true, Bool.not_eq_false] at *); first | omega | (rw [wrap64_of (by omega) (by omega)]; omega) | (unfold min_ max_; (repeat' split) <;> first | omega | (rw [wrap64_of (by omega) (by omega)]; omega)))) ?_
 refine GX.q (.int .u32 (IntKind.u32.wrap (shl_ .u64 4294967295 (IntKind.i64.wrap (32 - (min_ (max_ n0 0) 32)))))) ?_
 refine GX.m rfl ?_
 refine GX.done ?_
 refine WK.ret ?_
 subst hR
 exact RetQ.fr [] (.inr rfl) rfl rfl rfl rfl

theorem f39_ok (n0 : Int) (R : Bool) (hR : F39_addr_isLong n0 = R) : FnOk Tryd.prog 39 [.int .i64 n0] [] 0 (.bool R) [] 0 := by
 refine FnOk.wk i39 rfl rfl ?_
 unfold F39_addr_isLong at hR
 change WK _ _ _ [ac39] _ ⟨[(0, .int .i64 n0)], [], 0⟩
 unfold ac39
 refine WK.sr mixed ?_
 refine GX.m rfl ?_
 refine GX.done ?_
 refine WK.sr mixed ?_
 refine GX.m rfl ?_
 refine GX.q (.bool (decide (0 ≤ n0))) ?_
 refine GX.m rfl ?_
 rcases bool_two (decide (0 ≤ n0)) with hb1 | hb1
 ·rw [hb1]; try simp only [hb1, bb] at hR
  iterate 2 refine GX.skip rfl rfl ?_
  refine GX.q (.bool false) ?_
  refine GX.m rfl ?_
  refine GX.done ?_
  refine WK.ret ?_
  subst hR
  exact RetQ.fr [] (.inr rfl) rfl rfl rfl rfl
 ·rw [hb1]; try simp only [hb1, bb] at hR
  refine GX.m rfl ?_
  iterate 2 refine GX.q (.bool (decide (n0 ≤ 32))) ?_
  refine GX.m rfl ?_
  refine GX.done ?_
  refine WK.ret ?_
  subst hR
  exact RetQ.fr [] (.inr rfl) rfl rfl rfl rfl

theorem f17_ok (p0 : TPrefix) (R : Bool) (hR : F17_addr_May p0 = R) : FnOk Tryd.prog 17 [.agg (TPrefix.c p0)] [] 0 (.bool R) [] 0 := by
 refine FnOk.wk i17 rfl rfl ?_
 unfold F17_addr_May at hR
 change WK _ _ _ [ac17] _ ⟨[(0, .agg (TPrefix.c p0))], [], 0⟩
 unfold ac17
 refine WK.sr mixed ?_
 refine GX.step (v' := .ptr 0 0) (heap' := [(0, .box (TPrefix.c p0))]) (next' := 1) rfl rfl rfl rfl rfl rfl rfl ?_
 refine GX.m rfl ?_
 refine GX.done ?_
 refine WK.seq ?_
 refine WK.drawn mixed ?_
 refine RD.q (.ptr 0 1) ?_
 refine RD.q (.int .i64 p0.N) ?_
 generalize hc5 : F39_addr_isLong p0.N = c5 at hR
 try dsimp only at hR
 refine RD.callp (r := .bool c5) rfl rfl rfl (f39_ok p0.N _ hc5) rfl rfl ?_
 refine RD.m rfl ?_
 rcases bool_two (c5) with hb1 | hb1
 ·rw [hb1]; try simp only [hb1, bb] at hR
  iterate 7 refine RD.skip rfl rfl ?_
  refine RD.q (.bool false) ?_
  refine RD.m rfl ?_
  refine RD.done rfl ?_
  refine WK.ret ?_
  subst hR
  exact RetQ.fr [] (.inr rfl) rfl rfl rfl rfl
 ·rw [hb1]; try simp only [hb1, bb] at hR
  refine RD.q (.ptr 0 0) ?_
  refine RD.q (.int .u32 p0.A) ?_
  refine RD.q (.ptr 0 1) ?_
  refine RD.q (.int .i64 p0.N) ?_
  generalize hc11 : F16_addr_Mask p0.N = c11 at hR
  try dsimp only at hR
  refine RD.callp (r := .int .u32 c11) rfl rfl rfl (f16_ok p0.N _ hc11) rfl rfl ?_
  refine RD.q (.int .u32 (bit_andNot .u32 p0.A c11)) ?_
  iterate 2 refine RD.q (.bool (decide (bit_andNot .u32 p0.A c11 = 0))) ?_
  refine RD.m rfl ?_
  refine RD.done rfl ?_
  refine WK.ret ?_
  subst hR
  exact RetQ.fr [] (.inr rfl) rfl rfl rfl rfl

theorem f43_ok (c0 : Int) (R : Bool) (hR : F43_addr_number_1 c0 = R) : FnOk Tryd.prog 43 [.int .i32 c0] [] 0 (.bool R) [] 0 := by
 refine FnOk.wk i43 rfl rfl ?_
 unfold F43_addr_number_1 at hR
 change WK _ _ _ [ac43] _ ⟨[(0, .int .i32 c0)], [], 0⟩
 unfold ac43
 refine WK.sr mixed ?_
 refine GX.m rfl ?_
 refine GX.done ?_
 refine WK.sr mixed ?_
 refine GX.m rfl ?_
 refine GX.q (.bool (decide (c0 < 48))) ?_
 refine GX.m rfl ?_
 rcases bool_two (decide (c0 < 48)) with hb1 | hb1
 ·rw [hb1]; try simp only [hb1, bb] at hR
  refine GX.m rfl ?_
  iterate 2 refine GX.q (.bool (decide (57 < c0))) ?_
  refine GX.m rfl ?_
  refine GX.done ?_
  refine WK.ret ?_
  subst hR
  exact RetQ.fr [] (.inr rfl) rfl rfl rfl rfl
 ·rw [hb1]; try simp only [hb1, bb] at hR
  iterate 2 refine GX.skip rfl rfl ?_
  refine GX.q (.bool true) ?_
  refine GX.m rfl ?_
  refine GX.done ?_
  refine WK.ret ?_
  subst hR
  exact RetQ.fr [] (.inr rfl) rfl rfl rfl rfl

theorem f34_ok (s0 : ByteArray) (most1 : Int) (R : Int × Bool) (hR : F34_addr_number s0 most1 = some R) : FnOk Tryd.prog 34 [.str s0, .int .i64 most1] [] 0 (.tup [.int .i64 R.1, .bool R.2]) [] 0 := by
 refine FnOk.wk i34 rfl rfl ?_
 unfold F34_addr_number at hR
 try dsimp only at hR
 change WK _ _ _ [ac34] _ ⟨[(0, .str s0), (1, .int .i64 most1)], [], 0⟩
 unfold ac34
 refine WK.sr mixed ?_
 iterate 2 refine GX.m rfl ?_
 refine GX.done ?_
 refine WK.sr mixed ?_
 refine GX.m rfl ?_
 refine GX.done ?_
 refine WK.seq ?_
 refine WK.sr mixed ?_
 refine GX.m rfl ?_
 refine GX.q (.bool (s0.toList == (bstr []).toList)) ?_
 refine GX.m rfl ?_
 rcases bool_two ((s0.toList == (bstr []).toList)) with hb1 | hb1
 ·rw [hb1]; try simp only [hb1, bb] at hR
  refine GX.m rfl ?_
  refine GX.q (.int .i64 (s0.size : Int)) ?_
  iterate 2 refine GX.q (.bool (decide (3 < (s0.size : Int)))) ?_
  refine GX.m rfl ?_
  rcases bool_two (decide (3 < (s0.size : Int))) with hb2 | hb2
  ·rw [hb2]; first | replace hR := cond_f hb2 hR | (try simp only [hb2, bb] at hR)
   refine GX.m rfl ?_
   refine GX.q (.int .i64 (s0.size : Int)) ?_
   refine GX.q (.bool (decide (1 < (s0.size : Int)))) ?_
   refine GX.m rfl ?_
   rcases bool_two (decide (1 < (s0.size : Int))) with hb3 | hb3
   ·rw [hb3]; first | replace hR := cond_f hb3 hR | (try simp only [hb3, bb] at hR)
    iterate 3 refine GX.skip rfl rfl ?_
    iterate 2 refine GX.q (.bool false) ?_
    iterate 3 refine GX.m rfl ?_
    generalize hc29 : containsFuncS s0 (fun y0 => F43_addr_number_1 y0) = c29 at hR
    try dsimp only at hR
    refine GX.callp (r := .bool c29) rfl rfl rfl (f44_ok s0 43 [] [] (fun y0 => F43_addr_number_1 y0) ⟨rfl, rfl⟩ (fun y0 _ hr => f43_ok y0 _ hr) _ hc29) rfl rfl ?_
    refine GX.q (.bool c29) ?_
    refine GX.done ?_
    rcases bool_two (c29) with hb4 | hb4
    ·rw [hb4]; first | replace hR := cond_f hb4 hR | (try simp only [hb4, bb] at hR)
     refine WK.condF rfl ?_
     refine WK.skip ?_
     refine WK.sr mixed ?_
     refine GX.m rfl ?_
     generalize hc33 : atoiO s0 = c33 at hR
     rcases c33 with _ | c33
     ·try dsimp only at hR
      cases hR
     try dsimp only at hR
     obtain ⟨c33a, c33b⟩ := c33; try dsimp only at hR
     refine GX.callp (r := .tup [.int .i64 c33a, .nili]) rfl rfl rfl (f45_ok s0 _ hc33) rfl rfl ?_
     refine GX.m rfl ?_
     refine GX.q (.int .i64 c33a) ?_
     refine GX.q (.nili) ?_
     iterate 2 refine GX.m rfl ?_
     refine GX.done ?_
     refine WK.sr mixed ?_
     iterate 3 refine GX.m rfl ?_
     refine GX.q (.bool (decide (c33a ≤ most1))) ?_
     iterate 2 refine GX.m rfl ?_
     refine GX.done ?_
     refine WK.ret ?_
     obtain rfl := Option.some.inj hR
     exact RetQ.fr [] (.inr rfl) rfl rfl rfl rfl
    ·rw [hb4]; first | replace hR := cond_t hb4 hR | (try simp only [hb4, bb] at hR)
     refine WK.condT rfl ?_
     refine WK.sr mixed ?_
     iterate 2 refine GX.m rfl ?_
     refine GX.done ?_
     refine WK.ret ?_
     obtain rfl := Option.some.inj hR
     exact RetQ.fr [] (.inr rfl) rfl rfl rfl rfl
   ·rw [hb3]; first | replace hR := cond_t hb3 hR | (try simp only [hb3, bb] at hR)
    refine GX.m rfl ?_
    rcases bool_two (decide ((0 : Int) < (s0.size : Int))) with hg5 | hg5
    ·simp only [hg5, bb] at hR
     try dsimp only at hR
     cases hR
    simp only [hg5, bb] at hR
    have hg5_ := of_decide_eq_true hg5
    refine GX.pure (v' := .int .u8 (strAt s0 0)) rfl rfl rfl (core_idxSG (by omega) (by omega)) rfl ?_
    iterate 3 refine GX.q (.bool (decide ((strAt s0 0) = 48))) ?_
    refine GX.m rfl ?_
    rcases bool_two (decide ((strAt s0 0) = 48)) with hb6 | hb6
    ·rw [hb6]; first | replace hR := cond_f hb6 hR | (try simp only [hb6, bb] at hR)
     iterate 2 refine GX.m rfl ?_
     generalize hc29 : containsFuncS s0 (fun y0 => F43_addr_number_1 y0) = c29 at hR
     try dsimp only at hR
     refine GX.callp (r := .bool c29) rfl rfl rfl (f44_ok s0 43 [] [] (fun y0 => F43_addr_number_1 y0) ⟨rfl, rfl⟩ (fun y0 _ hr => f43_ok y0 _ hr) _ hc29) rfl rfl ?_
     refine GX.q (.bool c29) ?_
     refine GX.done ?_
     rcases bool_two (c29) with hb7 | hb7
     ·rw [hb7]; first | replace hR := cond_f hb7 hR | (try simp only [hb7, bb] at hR)
      refine WK.condF rfl ?_
      refine WK.skip ?_
      refine WK.sr mixed ?_
      refine GX.m rfl ?_
      generalize hc33 : atoiO s0 = c33 at hR
      rcases c33 with _ | c33
      ·try dsimp only at hR
       cases hR
      try dsimp only at hR
      obtain ⟨c33a, c33b⟩ := c33; try dsimp only at hR
      refine GX.callp (r := .tup [.int .i64 c33a, .nili]) rfl rfl rfl (f45_ok s0 _ hc33) rfl rfl ?_
      refine GX.m rfl ?_
      refine GX.q (.int .i64 c33a) ?_
      refine GX.q (.nili) ?_
      iterate 2 refine GX.m rfl ?_
      refine GX.done ?_
      refine WK.sr mixed ?_
      iterate 3 refine GX.m rfl ?_
      refine GX.q (.bool (decide (c33a ≤ most1))) ?_
      iterate 2 refine GX.m rfl ?_
      refine GX.done ?_
      refine WK.ret ?_
      obtain rfl := Option.some.inj hR
      exact RetQ.fr [] (.inr rfl) rfl rfl rfl rfl
     ·rw [hb7]; first | replace hR := cond_t hb7 hR | (try simp only [hb7, bb] at hR)
      refine WK.condT rfl ?_
      refine WK.sr mixed ?_
      iterate 2 refine GX.m rfl ?_
      refine GX.done ?_
      refine WK.ret ?_
      obtain rfl := Option.some.inj hR
      exact RetQ.fr [] (.inr rfl) rfl rfl rfl rfl
    ·rw [hb6]; first | replace hR := cond_t hb6 hR | (try simp only [hb6, bb] at hR)
     iterate 3 refine GX.skip rfl rfl ?_
     refine GX.q (.bool true) ?_
     refine GX.done ?_
     refine WK.condT rfl ?_
     refine WK.sr mixed ?_
     iterate 2 refine GX.m rfl ?_
     refine GX.done ?_
     refine WK.ret ?_
     obtain rfl := Option.some.inj hR
     exact RetQ.fr [] (.inr rfl) rfl rfl rfl rfl
  ·rw [hb2]; first | replace hR := cond_t hb2 hR | (try simp only [hb2, bb] at hR)
   iterate 8 refine GX.skip rfl rfl ?_
   refine GX.q (.bool true) ?_
   refine GX.m rfl ?_
   iterate 3 refine GX.skip rfl rfl ?_
   refine GX.q (.bool true) ?_
   refine GX.done ?_
   refine WK.condT rfl ?_
   refine WK.sr mixed ?_
   iterate 2 refine GX.m rfl ?_
   refine GX.done ?_
   refine WK.ret ?_
   obtain rfl := Option.some.inj hR
   exact RetQ.fr [] (.inr rfl) rfl rfl rfl rfl
 ·rw [hb1]; try simp only [hb1, bb] at hR
  iterate 3 refine GX.skip rfl rfl ?_
  refine GX.q (.bool true) ?_
  refine GX.m rfl ?_
  iterate 8 refine GX.skip rfl rfl ?_
  refine GX.q (.bool true) ?_
  refine GX.m rfl ?_
  iterate 3 refine GX.skip rfl rfl ?_
  refine GX.q (.bool true) ?_
  refine GX.done ?_
  refine WK.condT rfl ?_
  refine WK.sr mixed ?_
  iterate 2 refine GX.m rfl ?_
  refine GX.done ?_
  refine WK.ret ?_
  obtain rfl := Option.some.inj hR
  exact RetQ.fr [] (.inr rfl) rfl rfl rfl rfl

theorem f10_ok (s0 : ByteArray) (R : TPrefix × Int) (hR : F10_addr_Parse s0 = some R) : FnOk Tryd.prog 10 [.str s0] [] 0 (.tup [.agg (TPrefix.c R.1), .int .i64 R.2]) [] 0 := by
 refine FnOk.wk i10 rfl rfl ?_
 unfold F10_addr_Parse at hR
 try dsimp only at hR
 change WK _ _ _ [ac10] _ ⟨[(0, .str s0)], [], 0⟩
 unfold ac10
 refine WK.sr mixed ?_
 refine GX.step (v' := .ptr 0 0) (heap' := [(0, .box [.int .u32 0, .int .i64 0])]) (next' := 1) rfl rfl rfl rfl rfl rfl rfl ?_
 refine GX.m rfl ?_
 refine GX.done ?_
 refine WK.sr mixed ?_
 refine GX.m rfl ?_
 generalize hc17 : cutO s0 (bstr [47]) = c17 at hR
 rcases c17 with _ | c17
 ·try dsimp only at hR
  cases hR
 try dsimp only at hR
 obtain ⟨c17a, c17b, c17c⟩ := c17; try dsimp only at hR
 refine GX.callp (r := .tup [.str c17a, .str c17b, .bool c17c]) rfl rfl rfl (f32_ok s0 (bstr [47]) _ hc17) rfl rfl ?_
 refine GX.m rfl ?_
 refine GX.q (.str c17a) ?_
 refine GX.q (.str c17b) ?_
 refine GX.q (.bool c17c) ?_
 iterate 3 refine GX.m rfl ?_
 refine GX.done ?_
 refine WK.sr mixed ?_
 refine GX.m rfl ?_
 generalize hc22 : splitO c17a (bstr [46]) = c22 at hR
 rcases c22 with _ | c22
 ·try dsimp only at hR
  cases hR
 try dsimp only at hR
 try dsimp only at hR
 refine GX.callp (r := .ro 1 (c22.map c_str)) rfl rfl rfl (f33_ok c17a (bstr [46]) _ hc22) rfl rfl ?_
 refine GX.m rfl ?_
 refine GX.done ?_
 refine WK.sr mixed ?_
 refine GX.m rfl ?_
 generalize hc25 : F34_addr_number c17b 32 = c25 at hR
 rcases c25 with _ | c25
 ·try dsimp only at hR
  cases hR
 try dsimp only at hR
 obtain ⟨c25a, c25b⟩ := c25; try dsimp only at hR
 refine GX.callp (r := .tup [.int .i64 c25a, .bool c25b]) rfl rfl rfl (f34_ok c17b 32 _ hc25) rfl rfl ?_
 refine GX.m rfl ?_
 refine GX.q (.int .i64 c25a) ?_
 refine GX.q (.bool c25b) ?_
 iterate 2 refine GX.m rfl ?_
 refine GX.done ?_
 refine WK.seq ?_
 refine WK.sr mixed ?_
 refine GX.m rfl ?_
 refine GX.q (.bool (!c17c)) ?_
 refine GX.m rfl ?_
 rcases bool_two (c17c) with hb1 | hb1
 ·rw [hb1]; first | replace hR := cond_f hb1 hR | (try simp only [hb1, bb] at hR)
  iterate 2 refine GX.skip rfl rfl ?_
  refine GX.q (.bool true) ?_
  refine GX.m rfl ?_
  iterate 3 refine GX.skip rfl rfl ?_
  refine GX.q (.bool true) ?_
  refine GX.done ?_
  refine WK.condT rfl ?_
  refine WK.sr mixed ?_
  refine GX.q (.agg [.int .u32 0, .int .i64 0]) ?_
  refine GX.step0 (heap' := [(0, .box [.int .u32 0, .int .i64 0])]) (next' := 1) rfl rfl rfl rfl rfl ?_
  refine GX.m rfl ?_
  refine GX.done ?_
  refine WK.ret ?_
  obtain rfl := Option.some.inj hR
  exact RetQ.fr [] (.inr rfl) rfl rfl rfl rfl
 ·rw [hb1]; first | replace hR := cond_t hb1 hR | (try simp only [hb1, bb] at hR)
  refine GX.m rfl ?_
  iterate 2 refine GX.q (.bool (!c25b)) ?_
  refine GX.m rfl ?_
  rcases bool_two (c25b) with hb2 | hb2
  ·rw [hb2]; first | replace hR := cond_f hb2 hR | (try simp only [hb2, bb] at hR)
   iterate 3 refine GX.skip rfl rfl ?_
   refine GX.q (.bool true) ?_
   refine GX.done ?_
   refine WK.condT rfl ?_
   refine WK.sr mixed ?_
   refine GX.q (.agg [.int .u32 0, .int .i64 0]) ?_
   refine GX.step0 (heap' := [(0, .box [.int .u32 0, .int .i64 0])]) (next' := 1) rfl rfl rfl rfl rfl ?_
   refine GX.m rfl ?_
   refine GX.done ?_
   refine WK.ret ?_
   obtain rfl := Option.some.inj hR
   exact RetQ.fr [] (.inr rfl) rfl rfl rfl rfl
  ·rw [hb2]; first | replace hR := cond_t hb2 hR | (try simp only [hb2, bb] at hR)
   refine GX.m rfl ?_
   refine GX.pure (v' := .int .i64 (c22.length : Int)) rfl rfl rfl rfl (len_map _ _) ?_
   iterate 2 refine GX.q (.bool (!decide ((c22.length : Int) = 4))) ?_
   refine GX.done ?_
   rcases bool_two (decide ((c22.length : Int) = 4)) with hb3 | hb3
   ·rw [hb3]; first | replace hR := cond_f hb3 hR | (try simp only [hb3, bb] at hR)
    refine WK.condT rfl ?_
    refine WK.sr mixed ?_
    refine GX.q (.agg [.int .u32 0, .int .i64 0]) ?_
    refine GX.step0 (heap' := [(0, .box [.int .u32 0, .int .i64 0])]) (next' := 1) rfl rfl rfl rfl rfl ?_
    refine GX.m rfl ?_
    refine GX.done ?_
    refine WK.ret ?_
    obtain rfl := Option.some.inj hR
    exact RetQ.fr [] (.inr rfl) rfl rfl rfl rfl
   ·rw [hb3]; first | replace hR := cond_t hb3 hR | (try simp only [hb3, bb] at hR)
    refine WK.condF rfl ?_
    refine WK.skip ?_
    refine WK.sr mixed ?_
    refine GX.m rfl ?_
    refine GX.q (.agg [.int .u32 0, .int .i64 c25a]) ?_
    refine GX.step (v' := .ptr 1 0) (heap' := [(0, .box [.int .u32 0, .int .i64 0]), (1, .box [.int .u32 0, .int .i64 0])]) (next' := 2) rfl rfl rfl rfl rfl rfl rfl ?_
    refine GX.step0 (heap' := [(0, .box [.int .u32 0, .int .i64 0]), (1, .box [.int .u32 0, .int .i64 c25a])]) (next' := 2) rfl rfl rfl rfl rfl ?_
    refine GX.done ?_
    refine WK.seq ?_
    refine WK.sr mixed ?_
    refine GX.m rfl ?_
    refine GX.pure (v' := .int .i64 (c22.length : Int)) rfl rfl rfl rfl (len_map _ _) ?_
    refine GX.m rfl ?_
    refine GX.done ?_
    refine WK.len (t := 22) rfl (by simp) (fun hlen_9 => ?_)
    rw [List.length_map] at hlen_9
    generalize hZ_9 : F10_addr_Parse_l1 (⟨0, c25a⟩ : TPrefix) c22 = Z_9 at hR
    refine WK.forK (fun k s => ∃ (i44 : Nat) (p10 : TPrefix), i44 ≤ c22.length ∧ k = c22.length - i44 ∧ F10_addr_Parse_l1 p10 (c22.drop i44) = Z_9 ∧ s = ⟨[(2, .ptr 0 0), (10, .ptr 1 0), (42, .ro 1 (c22.map c_str)), (43, .int .i64 (c22.length : Int)), (44, .int .i64 (i44 : Int))], [(0, .box [.int .u32 0, .int .i64 0]), (1, .box (TPrefix.c p10))], 2⟩) c22.length ⟨⟨[(2, .ptr 0 0), (10, .ptr 1 0), (42, .ro 1 (c22.map c_str)), (43, .int .i64 (c22.length : Int)), (44, .int .i64 (0 : Int))], [(0, .box [.int .u32 0, .int .i64 0]), (1, .box (TPrefix.c (⟨0, c25a⟩ : TPrefix)))], 2⟩, Conv.keep [0, 1] [] [2, 10, 42, 43, 44] rfl rfl (viewE_cons rfl rfl (viewE_cons rfl rfl (viewE_cons rfl rfl (viewE_cons rfl rfl (viewE_cons rfl rfl viewE_nil))))) rfl rfl, 0, (⟨0, c25a⟩ : TPrefix), (by omega), rfl, hZ_9, rfl⟩ ?_
    rintro _ _ ⟨i44, p10, hi_9, rfl, hL_9, rfl⟩ again_9 out_9 Q_9 hagain_9 hout_9 hQ_9
    refine WK.sr mixed ?_
    refine GX.q (.bool (decide ((i44 : Int) < (c22.length : Int)))) ?_
    refine GX.done ?_
    refine WK.seq ?_
    rcases bool_two (decide ((i44 : Int) < (c22.length : Int))) with hb10 | hb10
    ·rw [hb10]
     rw [drop_end hb10, F10_addr_Parse_l1] at hL_9
     refine WK.condF rfl ?_
     refine WK.exit ?_
     refine QF.exit (hout_9 _ ?_)
     subst hL_9
     try dsimp only [cond_true, cond_false] at hR
     refine WK.seq ?_
     refine WK.sr mixed ?_
     refine GX.q (.agg (TPrefix.c p10)) ?_
     generalize hc65 : F17_addr_May p10 = c65 at hR
     try dsimp only at hR
     refine GX.callp (r := .bool c65) rfl rfl rfl (f17_ok p10 _ hc65) rfl rfl ?_
     refine GX.q (.bool (!c65)) ?_
     refine GX.done ?_
     rcases bool_two (c65) with hb11 | hb11
     ·rw [hb11]; first | replace hR := cond_f hb11 hR | (try simp only [hb11, bb] at hR)
      refine WK.condT rfl ?_
      refine WK.sr mixed ?_
      refine GX.q (.agg [.int .u32 0, .int .i64 0]) ?_
      refine GX.step0 (heap' := [(0, .box [.int .u32 0, .int .i64 0]), (1, .box (TPrefix.c p10))]) (next' := 2) rfl rfl rfl rfl rfl ?_
      refine GX.m rfl ?_
      refine GX.done ?_
      refine WK.ret ?_
      obtain rfl := Option.some.inj hR
      exact RetQ.fr [] (.inr rfl) rfl rfl rfl rfl
     ·rw [hb11]; first | replace hR := cond_t hb11 hR | (try simp only [hb11, bb] at hR)
      refine WK.condF rfl ?_
      refine WK.skip ?_
      refine WK.sr mixed ?_
      refine GX.q (.agg (TPrefix.c p10)) ?_
      refine GX.step0 (heap' := [(0, .box (TPrefix.c p10)), (1, .box (TPrefix.c p10))]) (next' := 2) rfl rfl rfl rfl rfl ?_
      refine GX.m rfl ?_
      refine GX.done ?_
      refine WK.ret ?_
      obtain rfl := Option.some.inj hR
      exact RetQ.fr [] (.inr rfl) rfl rfl rfl rfl
    ·rw [hb10]
     obtain ⟨x44, hx9, hd9, hlt9⟩ := drop_more hb10
     rw [hd9, F10_addr_Parse_l1] at hL_9
     refine WK.condT rfl ?_
     refine WK.skip ?_
     refine WK.seq ?_
     refine WK.blockK (fun _ hK12 => ?_)
     refine WK.sr mixed ?_
     refine GX.idxT (c := c_str) (x := x44) rfl rfl rfl (Int.natCast_nonneg _) hx9 ?_
     refine GX.q (.str x44) ?_
     refine GX.m rfl ?_
     refine GX.done ?_
     refine WK.sr mixed ?_
     refine GX.m rfl ?_
     generalize hc50 : F34_addr_number x44 255 = c50 at hL_9
     rcases c50 with _ | c50
     ·try dsimp only at hL_9
      subst hL_9
      try dsimp only at hR
      cases hR
     try dsimp only at hL_9
     obtain ⟨c50a, c50b⟩ := c50; try dsimp only at hL_9
     refine GX.callp (r := .tup [.int .i64 c50a, .bool c50b]) rfl rfl rfl (f34_ok x44 255 _ hc50) rfl rfl ?_
     refine GX.m rfl ?_
     refine GX.q (.int .i64 c50a) ?_
     refine GX.q (.bool c50b) ?_
     iterate 2 refine GX.m rfl ?_
     refine GX.done ?_
     refine WK.seq ?_
     refine WK.sr mixed ?_
     refine GX.m rfl ?_
     refine GX.q (.bool (!c50b)) ?_
     refine GX.done ?_
     rcases bool_two (c50b) with hb13 | hb13
     ·rw [hb13]; try simp only [hb13, bb] at hL_9
      refine WK.condT rfl ?_
      refine WK.sr mixed ?_
      refine GX.q (.agg [.int .u32 0, .int .i64 0]) ?_
      refine GX.step0 (heap' := [(0, .box [.int .u32 0, .int .i64 0]), (1, .box (TPrefix.c p10))]) (next' := 2) rfl rfl rfl rfl rfl ?_
      refine GX.m rfl ?_
      refine GX.done ?_
      refine WK.ret ?_
      refine QF.ret ?_
      refine QF.ret (hQ_9 _ _ ?_)
      subst hL_9
      try dsimp only at hR
      obtain rfl := Option.some.inj hR
      exact RetQ.fr [] (.inr rfl) rfl rfl rfl rfl
     ·rw [hb13]; try simp only [hb13, bb] at hL_9
      refine WK.condF rfl ?_
      refine WK.skip ?_
      refine WK.regx mixed ?_
      refine GX.q (.ptr 1 0) ?_
      refine GX.q (.int .u32 p10.A) ?_
      refine GX.q (.int .u32 (IntKind.u32.wrap (p10.A * 2 ^ 8))) ?_
      refine GX.m rfl ?_
      refine GX.q (.int .u32 (IntKind.u32.wrap c50a)) ?_
      refine GX.q (.int .u32 (bit_or .u32 (IntKind.u32.wrap (p10.A * 2 ^ 8)) (IntKind.u32.wrap c50a))) ?_
      refine GX.q (.ptr 1 0) ?_
      refine GX.step0 (heap' := [(0, .box [.int .u32 0, .int .i64 0]), (1, .box [.int .u32 (bit_or .u32 (IntKind.u32.wrap (p10.A * 2 ^ 8)) (IntKind.u32.wrap c50a)), .int .i64 p10.N])]) (next' := 2) rfl rfl rfl rfl rfl ?_
      refine GX.done ?_
      refine WK.nil (QF.normal (hK12 _ ?_))
      refine WK.regx mixed ?_
      refine GX.pure (v' := .int .i64 ((i44 + 1 : Nat) : Int)) rfl rfl rfl rfl (congrArg (PVal.int .i64) (wrap_up hlt9 hlen_9)) ?_
      refine GX.m rfl ?_
      refine GX.done ?_
      refine WK.nil (QF.normal ?_)
      exact hagain_9 _ (c22.length - (i44 + 1)) ⟨[(2, .ptr 0 0), (10, .ptr 1 0), (42, .ro 1 (c22.map c_str)), (43, .int .i64 (c22.length : Int)), (44, .int .i64 ((i44 + 1) : Int))], [(0, .box [.int .u32 0, .int .i64 0]), (1, .box (TPrefix.c (⟨bit_or .u32 (IntKind.u32.wrap (p10.A * 2 ^ 8)) (IntKind.u32.wrap c50a), p10.N⟩ : TPrefix)))], 2⟩ (by omega) (Conv.keep [0, 1] [] [2, 10, 42, 43, 44] rfl rfl (viewE_cons rfl rfl (viewE_cons rfl rfl (viewE_cons rfl rfl (viewE_cons rfl rfl (viewE_cons rfl rfl viewE_nil))))) rfl rfl) ⟨i44 + 1, (⟨bit_or .u32 (IntKind.u32.wrap (p10.A * 2 ^ 8)) (IntKind.u32.wrap c50a), p10.N⟩ : TPrefix), (by omega), rfl, hL_9, rfl⟩

theorem f12_ok (p0 : TPrefix) (R : ByteArray) (hR : F12_addr_Text p0 = some R) : FnOk Tryd.prog 12 [.agg (TPrefix.c p0)] [] 0 (.str R) [] 0 := by
 refine FnOk.wk i12 rfl rfl ?_
 unfold F12_addr_Text at hR
 try dsimp only at hR
 change WK _ _ _ [ac12] _ ⟨[(0, .agg (TPrefix.c p0))], [], 0⟩
 unfold ac12
 refine WK.sr mixed ?_
 refine GX.step (v' := .ptr 0 0) (heap' := [(0, .box (TPrefix.c p0))]) (next' := 1) rfl rfl rfl rfl rfl rfl rfl ?_
 refine GX.m rfl ?_
 refine GX.done ?_
 refine WK.sr mixed ?_
 refine GX.m rfl ?_
 refine GX.done ?_
 refine WK.seq ?_
 refine WK.sr mixed ?_
 refine GX.m rfl ?_
 refine GX.done ?_
 refine WK.unroll 6 (WU.go ?_)
 refine WK.seq ?_
 refine WK.sr mixed ?_
 refine GX.m rfl ?_
 refine GX.q (.bool true) ?_
 refine GX.done ?_
 refine WK.condT rfl ?_
 refine WK.skip ?_
 refine WK.seq ?_
 refine WK.blockK (fun _ hK2 => ?_)
 refine WK.regx mixed ?_
 refine GX.m rfl ?_
 refine GX.q (.ptr 0 0) ?_
 refine GX.q (.int .u32 p0.A) ?_
 refine GX.m rfl ?_
 refine GX.q (.int .u32 (Int.fdiv p0.A (2 ^ 24))) ?_
 refine GX.q (.int .u32 (bit_and .u32 (Int.fdiv p0.A (2 ^ 24)) 255)) ?_
 refine GX.q (.int .i64 (IntKind.i64.wrap (bit_and .u32 (Int.fdiv p0.A (2 ^ 24)) 255))) ?_
 generalize hc16 : itoaO (IntKind.i64.wrap (bit_and .u32 (Int.fdiv p0.A (2 ^ 24)) 255)) = c16 at hR
 rcases c16 with _ | c16
 ·try dsimp only at hR
  cases hR
 try dsimp only at hR
 try dsimp only at hR
 refine GX.callp (r := .str c16) rfl rfl rfl (f36_ok (IntKind.i64.wrap (bit_and .u32 (Int.fdiv p0.A (2 ^ 24)) 255)) _ hc16) rfl rfl ?_
 refine GX.step (v' := .own 1 1 0 (([c16] : List ByteArray)).length) (heap' := [(0, .box (TPrefix.c p0)), (1, .row 1 9 (([c16] : List ByteArray).map c_str))]) (next' := 2) rfl rfl rfl rfl rfl rfl rfl ?_
 refine GX.appnil (c := c_str) (X := ([c16] : List ByteArray)) (heap' := [(0, .box (TPrefix.c p0)), (1, .row 1 9 (([c16] : List ByteArray).map c_str)), (2, .row 1 9 (([c16] : List ByteArray).map c_str))]) (next' := 3) rfl rfl rfl (elems_own rfl) (by ((try simp only [List.length_append, List.length_cons, List.length_nil, List.length_map, decide_eq_true_eq, decide_eq_false_iff_not] at *) <;> omega)) (by ((try simp only [List.length_append, List.length_cons, List.length_nil, List.length_map, decide_eq_true_eq, decide_eq_false_iff_not] at *) <;> omega)) rfl rfl ?_
 refine GX.m rfl ?_
 refine GX.done ?_
 refine WK.nil (QF.normal (hK2 _ ?_))
 refine WK.regx mixed ?_
 refine GX.m rfl ?_
 refine GX.q (.int .i64 16) ?_
 refine GX.m rfl ?_
 refine GX.done ?_
 refine WK.nil (QF.normal (WU.go ?_))
 refine WK.seq ?_
 refine WK.sr mixed ?_
 refine GX.m rfl ?_
 refine GX.q (.bool true) ?_
 refine GX.done ?_
 refine WK.condT rfl ?_
 refine WK.skip ?_
 refine WK.seq ?_
 refine WK.blockK (fun _ hK3 => ?_)
 refine WK.regx mixed ?_
 refine GX.m rfl ?_
 refine GX.q (.ptr 0 0) ?_
 refine GX.q (.int .u32 p0.A) ?_
 refine GX.m rfl ?_
 refine GX.q (.int .u32 (Int.fdiv p0.A (2 ^ 16))) ?_
 refine GX.q (.int .u32 (bit_and .u32 (Int.fdiv p0.A (2 ^ 16)) 255)) ?_
 refine GX.q (.int .i64 (IntKind.i64.wrap (bit_and .u32 (Int.fdiv p0.A (2 ^ 16)) 255))) ?_
 generalize hc16x : itoaO (IntKind.i64.wrap (bit_and .u32 (Int.fdiv p0.A (2 ^ 16)) 255)) = c16x at hR
 rcases c16x with _ | c16x
 ·try dsimp only at hR
  cases hR
 try dsimp only at hR
 try dsimp only at hR
 refine GX.callp (r := .str c16x) rfl rfl rfl (f36_ok (IntKind.i64.wrap (bit_and .u32 (Int.fdiv p0.A (2 ^ 16)) 255)) _ hc16x) rfl rfl ?_
 refine GX.step (v' := .own 3 1 0 (([c16x] : List ByteArray)).length) (heap' := [(0, .box (TPrefix.c p0)), (1, .row 1 9 (([c16] : List ByteArray).map c_str)), (2, .row 1 9 (([c16] : List ByteArray).map c_str)), (3, .row 1 9 (([c16x] : List ByteArray).map c_str))]) (next' := 4) rfl rfl rfl rfl rfl rfl rfl ?_
 refine GX.appT (c := c_str) (L := ([c16] : List ByteArray)) (X := ([c16x] : List ByteArray)) (heap' := [(0, .box (TPrefix.c p0)), (1, .row 1 9 (([c16] : List ByteArray).map c_str)), (3, .row 1 9 (([c16x] : List ByteArray).map c_str)), (4, .row 1 9 ((([c16] : List ByteArray) ++ ([c16x] : List ByteArray)).map c_str))]) (next' := 5) rfl rfl rfl rfl (elems_own rfl) (by ((try simp only [List.length_append, List.length_cons, List.length_nil, List.length_map, decide_eq_true_eq, decide_eq_false_iff_not] at *) <;> omega)) (by ((try simp only [List.length_append, List.length_cons, List.length_nil, List.length_map, decide_eq_true_eq, decide_eq_false_iff_not] at *) <;> omega)) rfl rfl rfl rfl ?_
 refine GX.m rfl ?_
 refine GX.done ?_
 refine WK.nil (QF.normal (hK3 _ ?_))
 refine WK.regx mixed ?_
 refine GX.m rfl ?_
 refine GX.q (.int .i64 8) ?_
 refine GX.m rfl ?_
 refine GX.done ?_
 refine WK.nil (QF.normal (WU.go ?_))
 refine WK.seq ?_
 refine WK.sr mixed ?_
 refine GX.m rfl ?_
 refine GX.q (.bool true) ?_
 refine GX.done ?_
 refine WK.condT rfl ?_
 refine WK.skip ?_
 refine WK.seq ?_
 refine WK.blockK (fun _ hK4 => ?_)
 refine WK.regx mixed ?_
 refine GX.m rfl ?_
 refine GX.q (.ptr 0 0) ?_
 refine GX.q (.int .u32 p0.A) ?_
 refine GX.m rfl ?_
 refine GX.q (.int .u32 (Int.fdiv p0.A (2 ^ 8))) ?_
 refine GX.q (.int .u32 (bit_and .u32 (Int.fdiv p0.A (2 ^ 8)) 255)) ?_
 refine GX.q (.int .i64 (IntKind.i64.wrap (bit_and .u32 (Int.fdiv p0.A (2 ^ 8)) 255))) ?_
 generalize hc16xx : itoaO (IntKind.i64.wrap (bit_and .u32 (Int.fdiv p0.A (2 ^ 8)) 255)) = c16xx at hR
 rcases c16xx with _ | c16xx
 ·try dsimp only at hR
  cases hR
 try dsimp only at hR
 try dsimp only at hR
 refine GX.callp (r := .str c16xx) rfl rfl rfl (f36_ok (IntKind.i64.wrap (bit_and .u32 (Int.fdiv p0.A (2 ^ 8)) 255)) _ hc16xx) rfl rfl ?_
 refine GX.step (v' := .own 5 1 0 (([c16xx] : List ByteArray)).length) (heap' := [(0, .box (TPrefix.c p0)), (1, .row 1 9 (([c16] : List ByteArray).map c_str)), (3, .row 1 9 (([c16x] : List ByteArray).map c_str)), (4, .row 1 9 ((([c16] : List ByteArray) ++ ([c16x] : List ByteArray)).map c_str)), (5, .row 1 9 (([c16xx] : List ByteArray).map c_str))]) (next' := 6) rfl rfl rfl rfl rfl rfl rfl ?_
 rcases bool_two (decide ((([c16] : List ByteArray) ++ ([c16x] : List ByteArray)).length < 1099511627776)) with hg5 | hg5
 ·simp only [hg5, bb] at hR
  try dsimp only at hR
  cases hR
 simp only [hg5, bb] at hR
 have hg5_ := of_decide_eq_true hg5
 refine GX.appT (c := c_str) (L := (([c16] : List ByteArray) ++ ([c16x] : List ByteArray))) (X := ([c16xx] : List ByteArray)) (heap' := [(0, .box (TPrefix.c p0)), (1, .row 1 9 (([c16] : List ByteArray).map c_str)), (3, .row 1 9 (([c16x] : List ByteArray).map c_str)), (5, .row 1 9 (([c16xx] : List ByteArray).map c_str)), (6, .row 1 9 (((([c16] : List ByteArray) ++ ([c16x] : List ByteArray)) ++ ([c16xx] : List ByteArray)).map c_str))]) (next' := 7) rfl rfl rfl rfl (elems_own rfl) (by ((try simp only [List.length_append, List.length_cons, List.length_nil, List.length_map, decide_eq_true_eq, decide_eq_false_iff_not] at *) <;> omega)) (by ((try simp only [List.length_append, List.length_cons, List.length_nil, List.length_map, decide_eq_true_eq, decide_eq_false_iff_not] at *) <;> omega)) rfl rfl rfl rfl ?_
 refine GX.m rfl ?_
 refine GX.done ?_
 refine WK.nil (QF.normal (hK4 _ ?_))
 refine WK.regx mixed ?_
 refine GX.m rfl ?_
 refine GX.q (.int .i64 0) ?_
 refine GX.m rfl ?_
 refine GX.done ?_
 refine WK.nil (QF.normal (WU.go ?_))
 refine WK.seq ?_
 refine WK.sr mixed ?_
 refine GX.m rfl ?_
 refine GX.q (.bool true) ?_
 refine GX.done ?_
 refine WK.condT rfl ?_
 refine WK.skip ?_
 refine WK.seq ?_
 refine WK.blockK (fun _ hK6 => ?_)
 refine WK.regx mixed ?_
 refine GX.m rfl ?_
 refine GX.q (.ptr 0 0) ?_
 refine GX.q (.int .u32 p0.A) ?_
 refine GX.m rfl ?_
 refine GX.q (.int .u32 (Int.fdiv p0.A (2 ^ 0))) ?_
 refine GX.q (.int .u32 (bit_and .u32 (Int.fdiv p0.A (2 ^ 0)) 255)) ?_
 refine GX.q (.int .i64 (IntKind.i64.wrap (bit_and .u32 (Int.fdiv p0.A (2 ^ 0)) 255))) ?_
 generalize hc16xxx : itoaO (IntKind.i64.wrap (bit_and .u32 (Int.fdiv p0.A (2 ^ 0)) 255)) = c16xxx at hR
 rcases c16xxx with _ | c16xxx
 ·try dsimp only at hR
  cases hR
 try dsimp only at hR
 try dsimp only at hR
 refine GX.callp (r := .str c16xxx) rfl rfl rfl (f36_ok (IntKind.i64.wrap (bit_and .u32 (Int.fdiv p0.A (2 ^ 0)) 255)) _ hc16xxx) rfl rfl ?_
 refine GX.step (v' := .own 7 1 0 (([c16xxx] : List ByteArray)).length) (heap' := [(0, .box (TPrefix.c p0)), (1, .row 1 9 (([c16] : List ByteArray).map c_str)), (3, .row 1 9 (([c16x] : List ByteArray).map c_str)), (5, .row 1 9 (([c16xx] : List ByteArray).map c_str)), (6, .row 1 9 (((([c16] : List ByteArray) ++ ([c16x] : List ByteArray)) ++ ([c16xx] : List ByteArray)).map c_str)), (7, .row 1 9 (([c16xxx] : List ByteArray).map c_str))]) (next' := 8) rfl rfl rfl rfl rfl rfl rfl ?_
 rcases bool_two (decide (((([c16] : List ByteArray) ++ ([c16x] : List ByteArray)) ++ ([c16xx] : List ByteArray)).length < 1099511627776)) with hg7 | hg7
 ·simp only [hg7, bb] at hR
  try dsimp only at hR
  cases hR
 simp only [hg7, bb] at hR
 have hg7_ := of_decide_eq_true hg7
 refine GX.appT (c := c_str) (L := ((([c16] : List ByteArray) ++ ([c16x] : List ByteArray)) ++ ([c16xx] : List ByteArray))) (X := ([c16xxx] : List ByteArray)) (heap' := [(0, .box (TPrefix.c p0)), (1, .row 1 9 (([c16] : List ByteArray).map c_str)), (3, .row 1 9 (([c16x] : List ByteArray).map c_str)), (5, .row 1 9 (([c16xx] : List ByteArray).map c_str)), (7, .row 1 9 (([c16xxx] : List ByteArray).map c_str)), (8, .row 1 9 ((((([c16] : List ByteArray) ++ ([c16x] : List ByteArray)) ++ ([c16xx] : List ByteArray)) ++ ([c16xxx] : List ByteArray)).map c_str))]) (next' := 9) rfl rfl rfl rfl (elems_own rfl) (by ((try simp only [List.length_append, List.length_cons, List.length_nil, List.length_map, decide_eq_true_eq, decide_eq_false_iff_not] at *) <;> omega)) (by ((try simp only [List.length_append, List.length_cons, List.length_nil, List.length_map, decide_eq_true_eq, decide_eq_false_iff_not] at *) <;> omega)) rfl rfl rfl rfl ?_
 refine GX.m rfl ?_
 refine GX.done ?_
 refine WK.nil (QF.normal (hK6 _ ?_))
 refine WK.regx mixed ?_
 refine GX.m rfl ?_
 refine GX.q (.int .i64 (-8)) ?_
 refine GX.m rfl ?_
 refine GX.done ?_
 refine WK.nil (QF.normal (WU.go ?_))
 refine WK.seq ?_
 refine WK.sr mixed ?_
 refine GX.m rfl ?_
 refine GX.q (.bool false) ?_
 refine GX.done ?_
 refine WK.condF rfl ?_
 refine WK.exit ?_
 refine QF.exit ?_
 refine WK.seq ?_
 refine WK.drawn mixed ?_
 refine RD.m rfl ?_
 generalize hc20 : joinO (((([c16] : List ByteArray) ++ ([c16x] : List ByteArray)) ++ ([c16xx] : List ByteArray)) ++ ([c16xxx] : List ByteArray)) (bstr [46]) = c20 at hR
 rcases c20 with _ | c20
 ·try dsimp only at hR
  cases hR
 try dsimp only at hR
 try dsimp only at hR
 refine RD.callbp (r := .str c20) [8] rfl rfl rfl (viewGo_cons (view_rowT rfl rfl) (viewGo_cons rfl viewGo_nil)) (f37_ok (((([c16] : List ByteArray) ++ ([c16x] : List ByteArray)) ++ ([c16xx] : List ByteArray)) ++ ([c16xxx] : List ByteArray)) (bstr [46]) _ hc20) rfl rfl ?_
 rcases bool_two (decide (c20.size + (bstr [47]).size ≤ 9223372036854775807)) with hg8 | hg8
 ·simp only [hg8, bb] at hR
  try dsimp only at hR
  cases hR
 simp only [hg8, bb] at hR
 have hg8_ := of_decide_eq_true hg8
 refine RD.pure (v' := .str (c20 ++ (bstr [47]))) rfl rfl rfl (core_addS (by omega)) rfl ?_
 refine RD.q (.ptr 0 1) ?_
 refine RD.q (.int .i64 p0.N) ?_
 generalize hc24 : itoaO p0.N = c24 at hR
 rcases c24 with _ | c24
 ·try dsimp only at hR
  cases hR
 try dsimp only at hR
 try dsimp only at hR
 refine RD.callp (r := .str c24) rfl rfl rfl (f36_ok p0.N _ hc24) rfl rfl ?_
 rcases bool_two (decide ((c20 ++ (bstr [47])).size + c24.size ≤ 9223372036854775807)) with hg9 | hg9
 ·simp only [hg9, bb] at hR
  try dsimp only at hR
  cases hR
 simp only [hg9, bb] at hR
 have hg9_ := of_decide_eq_true hg9
 refine RD.pure (v' := .str ((c20 ++ (bstr [47])) ++ c24)) rfl rfl rfl (core_addS (by omega)) rfl ?_
 refine RD.m rfl ?_
 refine RD.done rfl ?_
 refine WK.ret ?_
 obtain rfl := Option.some.inj hR
 exact RetQ.fr [] (.inr rfl) rfl rfl rfl rfl

theorem f22_ok (p0 : TPrefix) (a1 : Int) (R : Bool) (hR : F22_addr_Has p0 a1 = R) : FnOk Tryd.prog 22 [.agg (TPrefix.c p0), .int .u32 a1] [] 0 (.bool R) [] 0 := by
 refine FnOk.wk i22 rfl rfl ?_
 unfold F22_addr_Has at hR
 change WK _ _ _ [ac22] _ ⟨[(0, .agg (TPrefix.c p0)), (1, .int .u32 a1)], [], 0⟩
 unfold ac22
 refine WK.sr mixed ?_
 refine GX.step (v' := .ptr 0 0) (heap' := [(0, .box (TPrefix.c p0))]) (next' := 1) rfl rfl rfl rfl rfl rfl rfl ?_
 refine GX.m rfl ?_
 refine GX.done ?_
 refine WK.seq ?_
 refine WK.drawn mixed ?_
 refine RD.q (.agg (TPrefix.c p0)) ?_
 generalize hc6 : F17_addr_May p0 = c6 at hR
 try dsimp only at hR
 refine RD.callp (r := .bool c6) rfl rfl rfl (f17_ok p0 _ hc6) rfl rfl ?_
 refine RD.m rfl ?_
 rcases bool_two (c6) with hb1 | hb1
 ·rw [hb1]; try simp only [hb1, bb] at hR
  iterate 8 refine RD.skip rfl rfl ?_
  refine RD.q (.bool false) ?_
  refine RD.m rfl ?_
  refine RD.done rfl ?_
  refine WK.ret ?_
  subst hR
  exact RetQ.fr [] (.inr rfl) rfl rfl rfl rfl
 ·rw [hb1]; try simp only [hb1, bb] at hR
  refine RD.m rfl ?_
  refine RD.q (.ptr 0 1) ?_
  refine RD.q (.int .i64 p0.N) ?_
  generalize hc11 : F16_addr_Mask p0.N = c11 at hR
  try dsimp only at hR
  refine RD.callp (r := .int .u32 c11) rfl rfl rfl (f16_ok p0.N _ hc11) rfl rfl ?_
  refine RD.q (.int .u32 (bit_and .u32 a1 c11)) ?_
  refine RD.q (.ptr 0 0) ?_
  refine RD.q (.int .u32 p0.A) ?_
  iterate 2 refine RD.q (.bool (decide (bit_and .u32 a1 c11 = p0.A))) ?_
  refine RD.m rfl ?_
  refine RD.done rfl ?_
  refine WK.ret ?_
  subst hR
  exact RetQ.fr [] (.inr rfl) rfl rfl rfl rfl

theorem f14_ok (p0 : TPrefix) (q1 : TPrefix) (R : Bool) (hR : F14_addr_Covers p0 q1 = R) : FnOk Tryd.prog 14 [.agg (TPrefix.c p0), .agg (TPrefix.c q1)] [] 0 (.bool R) [] 0 := by
 refine FnOk.wk i14 rfl rfl ?_
 unfold F14_addr_Covers at hR
 change WK _ _ _ [ac14] _ ⟨[(0, .agg (TPrefix.c p0)), (1, .agg (TPrefix.c q1))], [], 0⟩
 unfold ac14
 refine WK.sr mixed ?_
 refine GX.step (v' := .ptr 0 0) (heap' := [(0, .box (TPrefix.c p0))]) (next' := 1) rfl rfl rfl rfl rfl rfl rfl ?_
 refine GX.step (v' := .ptr 1 0) (heap' := [(0, .box (TPrefix.c p0)), (1, .box (TPrefix.c q1))]) (next' := 2) rfl rfl rfl rfl rfl rfl rfl ?_
 refine GX.m rfl ?_
 refine GX.done ?_
 refine WK.sr mixed ?_
 refine GX.q (.agg (TPrefix.c q1)) ?_
 generalize hc6 : F17_addr_May q1 = c6 at hR
 try dsimp only at hR
 refine GX.callp (r := .bool c6) rfl rfl rfl (f17_ok q1 _ hc6) rfl rfl ?_
 refine GX.m rfl ?_
 rcases bool_two (c6) with hb1 | hb1
 ·rw [hb1]; try simp only [hb1, bb] at hR
  iterate 5 refine GX.skip rfl rfl ?_
  refine GX.q (.bool false) ?_
  refine GX.m rfl ?_
  iterate 4 refine GX.skip rfl rfl ?_
  refine GX.q (.bool false) ?_
  refine GX.m rfl ?_
  refine GX.done ?_
  refine WK.ret ?_
  subst hR
  exact RetQ.fr [] (.inr rfl) rfl rfl rfl rfl
 ·rw [hb1]; try simp only [hb1, bb] at hR
  refine GX.q (.ptr 0 1) ?_
  refine GX.q (.int .i64 p0.N) ?_
  refine GX.q (.ptr 1 1) ?_
  refine GX.q (.int .i64 q1.N) ?_
  iterate 2 refine GX.q (.bool (decide (p0.N ≤ q1.N))) ?_
  refine GX.m rfl ?_
  rcases bool_two (decide (p0.N ≤ q1.N)) with hb2 | hb2
  ·rw [hb2]; try simp only [hb2, bb] at hR
   iterate 4 refine GX.skip rfl rfl ?_
   refine GX.q (.bool false) ?_
   refine GX.m rfl ?_
   refine GX.done ?_
   refine WK.ret ?_
   subst hR
   exact RetQ.fr [] (.inr rfl) rfl rfl rfl rfl
  ·rw [hb2]; try simp only [hb2, bb] at hR
   refine GX.q (.agg (TPrefix.c p0)) ?_
   refine GX.q (.ptr 1 0) ?_
   refine GX.q (.int .u32 q1.A) ?_
   generalize hc18 : F22_addr_Has p0 q1.A = c18 at hR
   try dsimp only at hR
   refine GX.callp (r := .bool c18) rfl rfl rfl (f22_ok p0 q1.A _ hc18) rfl rfl ?_
   refine GX.q (.bool c18) ?_
   refine GX.m rfl ?_
   refine GX.done ?_
   refine WK.ret ?_
   subst hR
   exact RetQ.fr [] (.inr rfl) rfl rfl rfl rfl

theorem f9_ok  (R : Bool) (hR : F9_crossroadslaw03_alive = some R) : FnOk Tryd.prog 9 [] [] 0 (.bool R) [] 0 := by
 refine FnOk.wk i9 rfl rfl ?_
 unfold F9_crossroadslaw03_alive at hR
 try dsimp only at hR
 change WK _ _ _ [ac9] _ ⟨[], [], 0⟩
 unfold ac9
 refine WK.sr mixed ?_
 refine GX.m rfl ?_
 refine GX.done ?_
 refine WK.sr mixed ?_
 generalize hc8 : F10_addr_Parse (bstr [49, 48, 46, 48, 46, 48, 46, 48, 47, 56]) = c8 at hR
 rcases c8 with _ | c8
 ·try dsimp only at hR
  cases hR
 try dsimp only at hR
 obtain ⟨c8a, c8b⟩ := c8; try dsimp only at hR
 refine GX.callp (r := .tup [.agg [.int .u32 c8a.A, .int .i64 c8a.N], .int .i64 c8b]) rfl rfl rfl (f10_ok (bstr [49, 48, 46, 48, 46, 48, 46, 48, 47, 56]) _ hc8) rfl rfl ?_
 refine GX.m rfl ?_
 refine GX.q (.agg [.int .u32 c8a.A, .int .i64 c8a.N]) ?_
 refine GX.q (.int .i64 c8b) ?_
 refine GX.step (v' := .ptr 0 0) (heap' := [(0, .box [.int .u32 0, .int .i64 0])]) (next' := 1) rfl rfl rfl rfl rfl rfl rfl ?_
 refine GX.step0 (heap' := [(0, .box (TPrefix.c c8a))]) (next' := 1) rfl rfl rfl rfl rfl ?_
 refine GX.m rfl ?_
 refine GX.done ?_
 refine WK.sr mixed ?_
 generalize hc12 : F10_addr_Parse (bstr [49, 48, 46, 49, 46, 48, 46, 48, 47, 49, 54]) = c12 at hR
 rcases c12 with _ | c12
 ·try dsimp only at hR
  cases hR
 try dsimp only at hR
 obtain ⟨c12a, c12b⟩ := c12; try dsimp only at hR
 refine GX.callp (r := .tup [.agg [.int .u32 c12a.A, .int .i64 c12a.N], .int .i64 c12b]) rfl rfl rfl (f10_ok (bstr [49, 48, 46, 49, 46, 48, 46, 48, 47, 49, 54]) _ hc12) rfl rfl ?_
 refine GX.m rfl ?_
 refine GX.q (.agg [.int .u32 c12a.A, .int .i64 c12a.N]) ?_
 refine GX.q (.int .i64 c12b) ?_
 refine GX.step (v' := .ptr 1 0) (heap' := [(0, .box (TPrefix.c c8a)), (1, .box [.int .u32 0, .int .i64 0])]) (next' := 2) rfl rfl rfl rfl rfl rfl rfl ?_
 refine GX.step0 (heap' := [(0, .box (TPrefix.c c8a)), (1, .box (TPrefix.c c12a))]) (next' := 2) rfl rfl rfl rfl rfl ?_
 refine GX.m rfl ?_
 refine GX.done ?_
 refine WK.sr mixed ?_
 generalize hc16 : F10_addr_Parse (bstr [49, 48, 46, 49, 46, 48, 46, 48, 47, 56]) = c16 at hR
 rcases c16 with _ | c16
 ·try dsimp only at hR
  cases hR
 try dsimp only at hR
 obtain ⟨c16a, c16b⟩ := c16; try dsimp only at hR
 refine GX.callp (r := .tup [.agg [.int .u32 c16a.A, .int .i64 c16a.N], .int .i64 c16b]) rfl rfl rfl (f10_ok (bstr [49, 48, 46, 49, 46, 48, 46, 48, 47, 56]) _ hc16) rfl rfl ?_
 refine GX.m rfl ?_
 refine GX.q (.agg [.int .u32 c16a.A, .int .i64 c16a.N]) ?_
 refine GX.q (.int .i64 c16b) ?_
 refine GX.step (v' := .ptr 2 0) (heap' := [(0, .box (TPrefix.c c8a)), (1, .box (TPrefix.c c12a)), (2, .box [.int .u32 0, .int .i64 0])]) (next' := 3) rfl rfl rfl rfl rfl rfl rfl ?_
 refine GX.step0 (heap' := [(0, .box (TPrefix.c c8a)), (1, .box (TPrefix.c c12a)), (2, .box (TPrefix.c c16a))]) (next' := 3) rfl rfl rfl rfl rfl ?_
 refine GX.m rfl ?_
 refine GX.done ?_
 refine WK.sr mixed ?_
 refine GX.m rfl ?_
 refine GX.q (.bool (decide (c8b = 0))) ?_
 refine GX.m rfl ?_
 rcases bool_two (decide (c8b = 0)) with hb1 | hb1
 ·rw [hb1]; first | replace hR := cond_f hb1 hR | (try simp only [hb1, bb] at hR)
  iterate 2 refine GX.skip rfl rfl ?_
  refine GX.q (.bool false) ?_
  refine GX.m rfl ?_
  iterate 2 refine GX.skip rfl rfl ?_
  refine GX.q (.bool false) ?_
  refine GX.m rfl ?_
  iterate 3 refine GX.skip rfl rfl ?_
  refine GX.q (.bool false) ?_
  refine GX.m rfl ?_
  iterate 4 refine GX.skip rfl rfl ?_
  refine GX.q (.bool false) ?_
  refine GX.m rfl ?_
  iterate 3 refine GX.skip rfl rfl ?_
  refine GX.q (.bool false) ?_
  refine GX.m rfl ?_
  refine GX.done ?_
  refine WK.ret ?_
  obtain rfl := Option.some.inj hR
  exact RetQ.fr [] (.inr rfl) rfl rfl rfl rfl
 ·rw [hb1]; first | replace hR := cond_t hb1 hR | (try simp only [hb1, bb] at hR)
  refine GX.m rfl ?_
  iterate 2 refine GX.q (.bool (decide (c12b = 0))) ?_
  refine GX.m rfl ?_
  rcases bool_two (decide (c12b = 0)) with hb2 | hb2
  ·rw [hb2]; first | replace hR := cond_f hb2 hR | (try simp only [hb2, bb] at hR)
   iterate 2 refine GX.skip rfl rfl ?_
   refine GX.q (.bool false) ?_
   refine GX.m rfl ?_
   iterate 3 refine GX.skip rfl rfl ?_
   refine GX.q (.bool false) ?_
   refine GX.m rfl ?_
   iterate 4 refine GX.skip rfl rfl ?_
   refine GX.q (.bool false) ?_
   refine GX.m rfl ?_
   iterate 3 refine GX.skip rfl rfl ?_
   refine GX.q (.bool false) ?_
   refine GX.m rfl ?_
   refine GX.done ?_
   refine WK.ret ?_
   obtain rfl := Option.some.inj hR
   exact RetQ.fr [] (.inr rfl) rfl rfl rfl rfl
  ·rw [hb2]; first | replace hR := cond_t hb2 hR | (try simp only [hb2, bb] at hR)
   refine GX.m rfl ?_
   iterate 2 refine GX.q (.bool (decide (c16b = 1))) ?_
   refine GX.m rfl ?_
   rcases bool_two (decide (c16b = 1)) with hb3 | hb3
   ·rw [hb3]; first | replace hR := cond_f hb3 hR | (try simp only [hb3, bb] at hR)
    iterate 3 refine GX.skip rfl rfl ?_
    refine GX.q (.bool false) ?_
    refine GX.m rfl ?_
    iterate 4 refine GX.skip rfl rfl ?_
    refine GX.q (.bool false) ?_
    refine GX.m rfl ?_
    iterate 3 refine GX.skip rfl rfl ?_
    refine GX.q (.bool false) ?_
    refine GX.m rfl ?_
    refine GX.done ?_
    refine WK.ret ?_
    obtain rfl := Option.some.inj hR
    exact RetQ.fr [] (.inr rfl) rfl rfl rfl rfl
   ·rw [hb3]; first | replace hR := cond_t hb3 hR | (try simp only [hb3, bb] at hR)
    refine GX.q (.agg (TPrefix.c c8a)) ?_
    refine GX.q (.agg (TPrefix.c c12a)) ?_
    generalize hc32 : F14_addr_Covers c8a c12a = c32 at hR
    try dsimp only at hR
    refine GX.callp (r := .bool c32) rfl rfl rfl (f14_ok c8a c12a _ hc32) rfl rfl ?_
    refine GX.q (.bool c32) ?_
    refine GX.m rfl ?_
    rcases bool_two (c32) with hb4 | hb4
    ·rw [hb4]; first | replace hR := cond_f hb4 hR | (try simp only [hb4, bb] at hR)
     iterate 4 refine GX.skip rfl rfl ?_
     refine GX.q (.bool false) ?_
     refine GX.m rfl ?_
     iterate 3 refine GX.skip rfl rfl ?_
     refine GX.q (.bool false) ?_
     refine GX.m rfl ?_
     refine GX.done ?_
     refine WK.ret ?_
     obtain rfl := Option.some.inj hR
     exact RetQ.fr [] (.inr rfl) rfl rfl rfl rfl
    ·rw [hb4]; first | replace hR := cond_t hb4 hR | (try simp only [hb4, bb] at hR)
     refine GX.q (.agg (TPrefix.c c12a)) ?_
     refine GX.q (.agg (TPrefix.c c8a)) ?_
     generalize hc37 : F14_addr_Covers c12a c8a = c37 at hR
     try dsimp only at hR
     refine GX.callp (r := .bool c37) rfl rfl rfl (f14_ok c12a c8a _ hc37) rfl rfl ?_
     iterate 2 refine GX.q (.bool (!c37)) ?_
     refine GX.m rfl ?_
     rcases bool_two (c37) with hb5 | hb5
     ·rw [hb5]; first | replace hR := cond_f hb5 hR | (try simp only [hb5, bb] at hR)
      refine GX.q (.agg (TPrefix.c c12a)) ?_
      generalize hc42 : F12_addr_Text c12a = c42 at hR
      rcases c42 with _ | c42
      ·try dsimp only at hR
       cases hR
      try dsimp only at hR
      try dsimp only at hR
      refine GX.callp (r := .str c42) rfl rfl rfl (f12_ok c12a _ hc42) rfl rfl ?_
      iterate 2 refine GX.q (.bool (c42.toList == (bstr [49, 48, 46, 49, 46, 48, 46, 48, 47, 49, 54]).toList)) ?_
      refine GX.m rfl ?_
      refine GX.done ?_
      refine WK.ret ?_
      obtain rfl := Option.some.inj hR
      exact RetQ.fr [] (.inr rfl) rfl rfl rfl rfl
     ·rw [hb5]; first | replace hR := cond_t hb5 hR | (try simp only [hb5, bb] at hR)
      iterate 3 refine GX.skip rfl rfl ?_
      refine GX.q (.bool false) ?_
      refine GX.m rfl ?_
      refine GX.done ?_
      refine WK.ret ?_
      obtain rfl := Option.some.inj hR
      exact RetQ.fr [] (.inr rfl) rfl rfl rfl rfl

theorem f50_ok (x0 : Int) (R : Int) (hR : F50_bits_Len32 x0 = R) : FnOk Tryd.prog 50 [.int .u32 x0] [] 0 (.int .i64 R) [] 0 := by
 refine FnOk.wk i50 rfl rfl ?_
 unfold F50_bits_Len32 at hR
 change WK _ _ _ [ac50] _ ⟨[(0, .int .u32 x0)], [], 0⟩
 unfold ac50
 refine WK.sr mixed ?_
 refine GX.m rfl ?_
 refine GX.done ?_
 refine WK.seq ?_
 refine WK.sr mixed ?_
 refine GX.m rfl ?_
 refine GX.q (.bool (decide (65536 ≤ x0))) ?_
 refine GX.done ?_
 rcases bool_two (decide (65536 ≤ x0)) with hb1 | hb1
 ·rw [hb1]; try simp only [hb1, bb] at hR
  refine WK.condF rfl ?_
  refine WK.skip ?_
  refine WK.seq ?_
  refine WK.sr mixed ?_
  refine GX.m rfl ?_
  refine GX.q (.bool (decide (256 ≤ x0))) ?_
  refine GX.done ?_
  rcases bool_two (decide (256 ≤ x0)) with hb2 | hb2
  ·rw [hb2]; try simp only [hb2, bb] at hR
   refine WK.condF rfl ?_
   refine WK.skip ?_
   refine WK.sr mixed ?_
   iterate 2 refine GX.m rfl ?_
   refine GX.q (.int .u8 (IntKind.u8.wrap x0)) ?_
   refine GX.pure (v' := .int .u8 (strAt (bstr [0, 1, 2, 2, 3, 3, 3, 3, 4, 4, 4, 4, 4, 4, 4, 4, 5, 5, 5, 5, 5, 5, 5, 5, 5, 5, 5, 5, 5, 5, 5, 5, 6, 6, 6, 6, 6, 6, 6, 6, 6, 6, 6, 6, 6, 6, 6, 6, 6, 6, 6, 6, 6, 6, 6, 6, 6, 6, 6, 6, 6, 6, 6, 6, 7, 7, 7, 7, 7, 7, 7, 7, 7, 7, 7, 7, 7, 7, 7, 7, 7, 7, 7, 7, 7, 7, 7, 7, 7, 7, 7, 7, 7, 7, 7, 7, 7, 7, 7, 7, 7, 7, 7, 7, 7, 7, 7, 7, 7, 7, 7, 7, 7, 7, 7, 7, 7, 7, 7, 7, 7, 7, 7, 7, 7, 7, 7, 7, 8, 8, 8, 8, 8, 8, 8, 8, 8, 8, 8, 8, 8, 8, 8, 8, 8, 8, 8, 8, 8, 8, 8, 8, 8, 8, 8, 8, 8, 8, 8, 8, 8, 8, 8, 8, 8, 8, 8, 8, 8, 8, 8, 8, 8, 8, 8, 8, 8, 8, 8, 8, 8, 8, 8, 8, 8, 8, 8, 8, 8, 8, 8, 8, 8, 8, 8, 8, 8, 8, 8, 8, 8, 8, 8, 8, 8, 8, 8, 8, 8, 8, 8, 8, 8, 8, 8, 8, 8, 8, 8, 8, 8, 8, 8, 8, 8, 8, 8, 8, 8, 8, 8, 8, 8, 8, 8, 8, 8, 8, 8, 8, 8, 8, 8, 8, 8, 8, 8, 8, 8, 8, 8, 8, 8, 8, 8, 8]) (IntKind.u8.wrap x0))) rfl rfl rfl (core_idxS256 rfl) rfl ?_
   refine GX.q (.int .i64 (IntKind.i64.wrap (strAt (bstr [0, 1, 2, 2, 3, 3, 3, 3, 4, 4, 4, 4, 4, 4, 4, 4, 5, 5, 5, 5, 5, 5, 5, 5, 5, 5, 5, 5, 5, 5, 5, 5, 6, 6, 6, 6, 6, 6, 6, 6, 6, 6, 6, 6, 6, 6, 6, 6, 6, 6, 6, 6, 6, 6, 6, 6, 6, 6, 6, 6, 6, 6, 6, 6, 7, 7, 7, 7, 7, 7, 7, 7, 7, 7, 7, 7, 7, 7, 7, 7, 7, 7, 7, 7, 7, 7, 7, 7, 7, 7, 7, 7, 7, 7, 7, 7, 7, 7, 7, 7, 7, 7, 7, 7, 7, 7, 7, 7, 7, 7, 7, 7, 7, 7, 7, 7, 7, 7, 7, 7, 7, 7, 7, 7, 7, 7, 7, 7, 8, 8, 8, 8, 8, 8, 8, 8, 8, 8, 8, 8, 8, 8, 8, 8, 8, 8, 8, 8, 8, 8, 8, 8, 8, 8, 8, 8, 8, 8, 8, 8, 8, 8, 8, 8, 8, 8, 8, 8, 8, 8, 8, 8, 8, 8, 8, 8, 8, 8, 8, 8, 8, 8, 8, 8, 8, 8, 8, 8, 8, 8, 8, 8, 8, 8, 8, 8, 8, 8, 8, 8, 8, 8, 8, 8, 8, 8, 8, 8, 8, 8, 8, 8, 8, 8, 8, 8, 8, 8, 8, 8, 8, 8, 8, 8, 8, 8, 8, 8, 8, 8, 8, 8, 8, 8, 8, 8, 8, 8, 8, 8, 8, 8, 8, 8, 8, 8, 8, 8, 8, 8, 8, 8, 8, 8, 8, 8]) (IntKind.u8.wrap x0)))) ?_
   refine GX.q (.int .i64 (IntKind.i64.wrap (0 + (IntKind.i64.wrap (strAt (bstr [0, 1, 2, 2, 3, 3, 3, 3, 4, 4, 4, 4, 4, 4, 4, 4, 5, 5, 5, 5, 5, 5, 5, 5, 5, 5, 5, 5, 5, 5, 5, 5, 6, 6, 6, 6, 6, 6, 6, 6, 6, 6, 6, 6, 6, 6, 6, 6, 6, 6, 6, 6, 6, 6, 6, 6, 6, 6, 6, 6, 6, 6, 6, 6, 7, 7, 7, 7, 7, 7, 7, 7, 7, 7, 7, 7, 7, 7, 7, 7, 7, 7, 7, 7, 7, 7, 7, 7, 7, 7, 7, 7, 7, 7, 7, 7, 7, 7, 7, 7, 7, 7, 7, 7, 7, 7, 7, 7, 7, 7, 7, 7, 7, 7, 7, 7, 7, 7, 7, 7, 7, 7, 7, 7, 7, 7, 7, 7, 8, 8, 8, 8, 8, 8, 8, 8, 8, 8, 8, 8, 8, 8, 8, 8, 8, 8, 8, 8, 8, 8, 8, 8, 8, 8, 8, 8, 8, 8, 8, 8, 8, 8, 8, 8, 8, 8, 8, 8, 8, 8, 8, 8, 8, 8, 8, 8, 8, 8, 8, 8, 8, 8, 8, 8, 8, 8, 8, 8, 8, 8, 8, 8, 8, 8, 8, 8, 8, 8, 8, 8, 8, 8, 8, 8, 8, 8, 8, 8, 8, 8, 8, 8, 8, 8, 8, 8, 8, 8, 8, 8, 8, 8, 8, 8, 8, 8, 8, 8, 8, 8, 8, 8, 8, 8, 8, 8, 8, 8, 8, 8, 8, 8, 8, 8, 8, 8, 8, 8, 8, 8, 8, 8, 8, 8, 8, 8]) (IntKind.u8.wrap x0)))))) ?_
   refine GX.m rfl ?_
   refine GX.done ?_
   refine WK.ret ?_
   subst hR
   exact RetQ.fr [] (.inr rfl) rfl rfl rfl rfl
  ·rw [hb2]; try simp only [hb2, bb] at hR
   refine WK.condT rfl ?_
   refine WK.sr mixed ?_
   refine GX.m rfl ?_
   refine GX.q (.int .u32 (Int.fdiv x0 (2 ^ 8))) ?_
   refine GX.m rfl ?_
   refine GX.done ?_
   refine WK.regx mixed ?_
   refine GX.m rfl ?_
   refine GX.q (.int .i64 8) ?_
   refine GX.m rfl ?_
   refine GX.done ?_
   refine WK.sr mixed ?_
   iterate 2 refine GX.m rfl ?_
   refine GX.q (.int .u8 (IntKind.u8.wrap (Int.fdiv x0 (2 ^ 8)))) ?_
   refine GX.pure (v' := .int .u8 (strAt (bstr [0, 1, 2, 2, 3, 3, 3, 3, 4, 4, 4, 4, 4, 4, 4, 4, 5, 5, 5, 5, 5, 5, 5, 5, 5, 5, 5, 5, 5, 5, 5, 5, 6, 6, 6, 6, 6, 6, 6, 6, 6, 6, 6, 6, 6, 6, 6, 6, 6, 6, 6, 6, 6, 6, 6, 6, 6, 6, 6, 6, 6, 6, 6, 6, 7, 7, 7, 7, 7, 7, 7, 7, 7, 7, 7, 7, 7, 7, 7, 7, 7, 7, 7, 7, 7, 7, 7, 7, 7, 7, 7, 7, 7, 7, 7, 7, 7, 7, 7, 7, 7, 7, 7, 7, 7, 7, 7, 7, 7, 7, 7, 7, 7, 7, 7, 7, 7, 7, 7, 7, 7, 7, 7, 7, 7, 7, 7, 7, 8, 8, 8, 8, 8, 8, 8, 8, 8, 8, 8, 8, 8, 8, 8, 8, 8, 8, 8, 8, 8, 8, 8, 8, 8, 8, 8, 8, 8, 8, 8, 8, 8, 8, 8, 8, 8, 8, 8, 8, 8, 8, 8, 8, 8, 8, 8, 8, 8, 8, 8, 8, 8, 8, 8, 8, 8, 8, 8, 8, 8, 8, 8, 8, 8, 8, 8, 8, 8, 8, 8, 8, 8, 8, 8, 8, 8, 8, 8, 8, 8, 8, 8, 8, 8, 8, 8, 8, 8, 8, 8, 8, 8, 8, 8, 8, 8, 8, 8, 8, 8, 8, 8, 8, 8, 8, 8, 8, 8, 8, 8, 8, 8, 8, 8, 8, 8, 8, 8, 8, 8, 8, 8, 8, 8, 8, 8, 8]) (IntKind.u8.wrap (Int.fdiv x0 (2 ^ 8))))) rfl rfl rfl (core_idxS256 rfl) rfl ?_
   refine GX.q (.int .i64 (IntKind.i64.wrap (strAt (bstr [0, 1, 2, 2, 3, 3, 3, 3, 4, 4, 4, 4, 4, 4, 4, 4, 5, 5, 5, 5, 5, 5, 5, 5, 5, 5, 5, 5, 5, 5, 5, 5, 6, 6, 6, 6, 6, 6, 6, 6, 6, 6, 6, 6, 6, 6, 6, 6, 6, 6, 6, 6, 6, 6, 6, 6, 6, 6, 6, 6, 6, 6, 6, 6, 7, 7, 7, 7, 7, 7, 7, 7, 7, 7, 7, 7, 7, 7, 7, 7, 7, 7, 7, 7, 7, 7, 7, 7, 7, 7, 7, 7, 7, 7, 7, 7, 7, 7, 7, 7, 7, 7, 7, 7, 7, 7, 7, 7, 7, 7, 7, 7, 7, 7, 7, 7, 7, 7, 7, 7, 7, 7, 7, 7, 7, 7, 7, 7, 8, 8, 8, 8, 8, 8, 8, 8, 8, 8, 8, 8, 8, 8, 8, 8, 8, 8, 8, 8, 8, 8, 8, 8, 8, 8, 8, 8, 8, 8, 8, 8, 8, 8, 8, 8, 8, 8, 8, 8, 8, 8, 8, 8, 8, 8, 8, 8, 8, 8, 8, 8, 8, 8, 8, 8, 8, 8, 8, 8, 8, 8, 8, 8, 8, 8, 8, 8, 8, 8, 8, 8, 8, 8, 8, 8, 8, 8, 8, 8, 8, 8, 8, 8, 8, 8, 8, 8, 8, 8, 8, 8, 8, 8, 8, 8, 8, 8, 8, 8, 8, 8, 8, 8, 8, 8, 8, 8, 8, 8, 8, 8, 8, 8, 8, 8, 8, 8, 8, 8, 8, 8, 8, 8, 8, 8, 8, 8]) (IntKind.u8.wrap (Int.fdiv x0 (2 ^ 8)))))) ?_
   refine GX.q (.int .i64 (IntKind.i64.wrap (8 + (IntKind.i64.wrap (strAt (bstr [0, 1, 2, 2, 3, 3, 3, 3, 4, 4, 4, 4, 4, 4, 4, 4, 5, 5, 5, 5, 5, 5, 5, 5, 5, 5, 5, 5, 5, 5, 5, 5, 6, 6, 6, 6, 6, 6, 6, 6, 6, 6, 6, 6, 6, 6, 6, 6, 6, 6, 6, 6, 6, 6, 6, 6, 6, 6, 6, 6, 6, 6, 6, 6, 7, 7, 7, 7, 7, 7, 7, 7, 7, 7, 7, 7, 7, 7, 7, 7, 7, 7, 7, 7, 7, 7, 7, 7, 7, 7, 7, 7, 7, 7, 7, 7, 7, 7, 7, 7, 7, 7, 7, 7, 7, 7, 7, 7, 7, 7, 7, 7, 7, 7, 7, 7, 7, 7, 7, 7, 7, 7, 7, 7, 7, 7, 7, 7, 8, 8, 8, 8, 8, 8, 8, 8, 8, 8, 8, 8, 8, 8, 8, 8, 8, 8, 8, 8, 8, 8, 8, 8, 8, 8, 8, 8, 8, 8, 8, 8, 8, 8, 8, 8, 8, 8, 8, 8, 8, 8, 8, 8, 8, 8, 8, 8, 8, 8, 8, 8, 8, 8, 8, 8, 8, 8, 8, 8, 8, 8, 8, 8, 8, 8, 8, 8, 8, 8, 8, 8, 8, 8, 8, 8, 8, 8, 8, 8, 8, 8, 8, 8, 8, 8, 8, 8, 8, 8, 8, 8, 8, 8, 8, 8, 8, 8, 8, 8, 8, 8, 8, 8, 8, 8, 8, 8, 8, 8, 8, 8, 8, 8, 8, 8, 8, 8, 8, 8, 8, 8, 8, 8, 8, 8, 8, 8]) (IntKind.u8.wrap (Int.fdiv x0 (2 ^ 8)))))))) ?_
   refine GX.m rfl ?_
   refine GX.done ?_
   refine WK.ret ?_
   subst hR
   exact RetQ.fr [] (.inr rfl) rfl rfl rfl rfl
 ·rw [hb1]; try simp only [hb1, bb] at hR
  refine WK.condT rfl ?_
  refine WK.sr mixed ?_
  refine GX.m rfl ?_
  refine GX.q (.int .u32 (Int.fdiv x0 (2 ^ 16))) ?_
  refine GX.m rfl ?_
  refine GX.done ?_
  refine WK.regx mixed ?_
  refine GX.m rfl ?_
  refine GX.done ?_
  refine WK.seq ?_
  refine WK.sr mixed ?_
  refine GX.m rfl ?_
  refine GX.q (.bool (decide (256 ≤ (Int.fdiv x0 (2 ^ 16))))) ?_
  refine GX.done ?_
  rcases bool_two (decide (256 ≤ (Int.fdiv x0 (2 ^ 16)))) with hb3 | hb3
  ·rw [hb3]; try simp only [hb3, bb] at hR
   refine WK.condF rfl ?_
   refine WK.skip ?_
   refine WK.sr mixed ?_
   iterate 2 refine GX.m rfl ?_
   refine GX.q (.int .u8 (IntKind.u8.wrap (Int.fdiv x0 (2 ^ 16)))) ?_
   refine GX.pure (v' := .int .u8 (strAt (bstr [0, 1, 2, 2, 3, 3, 3, 3, 4, 4, 4, 4, 4, 4, 4, 4, 5, 5, 5, 5, 5, 5, 5, 5, 5, 5, 5, 5, 5, 5, 5, 5, 6, 6, 6, 6, 6, 6, 6, 6, 6, 6, 6, 6, 6, 6, 6, 6, 6, 6, 6, 6, 6, 6, 6, 6, 6, 6, 6, 6, 6, 6, 6, 6, 7, 7, 7, 7, 7, 7, 7, 7, 7, 7, 7, 7, 7, 7, 7, 7, 7, 7, 7, 7, 7, 7, 7, 7, 7, 7, 7, 7, 7, 7, 7, 7, 7, 7, 7, 7, 7, 7, 7, 7, 7, 7, 7, 7, 7, 7, 7, 7, 7, 7, 7, 7, 7, 7, 7, 7, 7, 7, 7, 7, 7, 7, 7, 7, 8, 8, 8, 8, 8, 8, 8, 8, 8, 8, 8, 8, 8, 8, 8, 8, 8, 8, 8, 8, 8, 8, 8, 8, 8, 8, 8, 8, 8, 8, 8, 8, 8, 8, 8, 8, 8, 8, 8, 8, 8, 8, 8, 8, 8, 8, 8, 8, 8, 8, 8, 8, 8, 8, 8, 8, 8, 8, 8, 8, 8, 8, 8, 8, 8, 8, 8, 8, 8, 8, 8, 8, 8, 8, 8, 8, 8, 8, 8, 8, 8, 8, 8, 8, 8, 8, 8, 8, 8, 8, 8, 8, 8, 8, 8, 8, 8, 8, 8, 8, 8, 8, 8, 8, 8, 8, 8, 8, 8, 8, 8, 8, 8, 8, 8, 8, 8, 8, 8, 8, 8, 8, 8, 8, 8, 8, 8, 8]) (IntKind.u8.wrap (Int.fdiv x0 (2 ^ 16))))) rfl rfl rfl (core_idxS256 rfl) rfl ?_
   refine GX.q (.int .i64 (IntKind.i64.wrap (strAt (bstr [0, 1, 2, 2, 3, 3, 3, 3, 4, 4, 4, 4, 4, 4, 4, 4, 5, 5, 5, 5, 5, 5, 5, 5, 5, 5, 5, 5, 5, 5, 5, 5, 6, 6, 6, 6, 6, 6, 6, 6, 6, 6, 6, 6, 6, 6, 6, 6, 6, 6, 6, 6, 6, 6, 6, 6, 6, 6, 6, 6, 6, 6, 6, 6, 7, 7, 7, 7, 7, 7, 7, 7, 7, 7, 7, 7, 7, 7, 7, 7, 7, 7, 7, 7, 7, 7, 7, 7, 7, 7, 7, 7, 7, 7, 7, 7, 7, 7, 7, 7, 7, 7, 7, 7, 7, 7, 7, 7, 7, 7, 7, 7, 7, 7, 7, 7, 7, 7, 7, 7, 7, 7, 7, 7, 7, 7, 7, 7, 8, 8, 8, 8, 8, 8, 8, 8, 8, 8, 8, 8, 8, 8, 8, 8, 8, 8, 8, 8, 8, 8, 8, 8, 8, 8, 8, 8, 8, 8, 8, 8, 8, 8, 8, 8, 8, 8, 8, 8, 8, 8, 8, 8, 8, 8, 8, 8, 8, 8, 8, 8, 8, 8, 8, 8, 8, 8, 8, 8, 8, 8, 8, 8, 8, 8, 8, 8, 8, 8, 8, 8, 8, 8, 8, 8, 8, 8, 8, 8, 8, 8, 8, 8, 8, 8, 8, 8, 8, 8, 8, 8, 8, 8, 8, 8, 8, 8, 8, 8, 8, 8, 8, 8, 8, 8, 8, 8, 8, 8, 8, 8, 8, 8, 8, 8, 8, 8, 8, 8, 8, 8, 8, 8, 8, 8, 8, 8]) (IntKind.u8.wrap (Int.fdiv x0 (2 ^ 16)))))) ?_
   refine GX.q (.int .i64 (IntKind.i64.wrap (16 + (IntKind.i64.wrap (strAt (bstr [0, 1, 2, 2, 3, 3, 3, 3, 4, 4, 4, 4, 4, 4, 4, 4, 5, 5, 5, 5, 5, 5, 5, 5, 5, 5, 5, 5, 5, 5, 5, 5, 6, 6, 6, 6, 6, 6, 6, 6, 6, 6, 6, 6, 6, 6, 6, 6, 6, 6, 6, 6, 6, 6, 6, 6, 6, 6, 6, 6, 6, 6, 6, 6, 7, 7, 7, 7, 7, 7, 7, 7, 7, 7, 7, 7, 7, 7, 7, 7, 7, 7, 7, 7, 7, 7, 7, 7, 7, 7, 7, 7, 7, 7, 7, 7, 7, 7, 7, 7, 7, 7, 7, 7, 7, 7, 7, 7, 7, 7, 7, 7, 7, 7, 7, 7, 7, 7, 7, 7, 7, 7, 7, 7, 7, 7, 7, 7, 8, 8, 8, 8, 8, 8, 8, 8, 8, 8, 8, 8, 8, 8, 8, 8, 8, 8, 8, 8, 8, 8, 8, 8, 8, 8, 8, 8, 8, 8, 8, 8, 8, 8, 8, 8, 8, 8, 8, 8, 8, 8, 8, 8, 8, 8, 8, 8, 8, 8, 8, 8, 8, 8, 8, 8, 8, 8, 8, 8, 8, 8, 8, 8, 8, 8, 8, 8, 8, 8, 8, 8, 8, 8, 8, 8, 8, 8, 8, 8, 8, 8, 8, 8, 8, 8, 8, 8, 8, 8, 8, 8, 8, 8, 8, 8, 8, 8, 8, 8, 8, 8, 8, 8, 8, 8, 8, 8, 8, 8, 8, 8, 8, 8, 8, 8, 8, 8, 8, 8, 8, 8, 8, 8, 8, 8, 8, 8]) (IntKind.u8.wrap (Int.fdiv x0 (2 ^ 16)))))))) ?_
   refine GX.m rfl ?_
   refine GX.done ?_
   refine WK.ret ?_
   subst hR
   exact RetQ.fr [] (.inr rfl) rfl rfl rfl rfl
  ·rw [hb3]; try simp only [hb3, bb] at hR
   refine WK.condT rfl ?_
   refine WK.sr mixed ?_
   refine GX.m rfl ?_
   refine GX.q (.int .u32 (Int.fdiv (Int.fdiv x0 (2 ^ 16)) (2 ^ 8))) ?_
   refine GX.m rfl ?_
   refine GX.done ?_
   refine WK.regx mixed ?_
   refine GX.m rfl ?_
   refine GX.q (.int .i64 24) ?_
   refine GX.m rfl ?_
   refine GX.done ?_
   refine WK.sr mixed ?_
   iterate 2 refine GX.m rfl ?_
   refine GX.q (.int .u8 (IntKind.u8.wrap (Int.fdiv (Int.fdiv x0 (2 ^ 16)) (2 ^ 8)))) ?_
   refine GX.pure (v' := .int .u8 (strAt (bstr [0, 1, 2, 2, 3, 3, 3, 3, 4, 4, 4, 4, 4, 4, 4, 4, 5, 5, 5, 5, 5, 5, 5, 5, 5, 5, 5, 5, 5, 5, 5, 5, 6, 6, 6, 6, 6, 6, 6, 6, 6, 6, 6, 6, 6, 6, 6, 6, 6, 6, 6, 6, 6, 6, 6, 6, 6, 6, 6, 6, 6, 6, 6, 6, 7, 7, 7, 7, 7, 7, 7, 7, 7, 7, 7, 7, 7, 7, 7, 7, 7, 7, 7, 7, 7, 7, 7, 7, 7, 7, 7, 7, 7, 7, 7, 7, 7, 7, 7, 7, 7, 7, 7, 7, 7, 7, 7, 7, 7, 7, 7, 7, 7, 7, 7, 7, 7, 7, 7, 7, 7, 7, 7, 7, 7, 7, 7, 7, 8, 8, 8, 8, 8, 8, 8, 8, 8, 8, 8, 8, 8, 8, 8, 8, 8, 8, 8, 8, 8, 8, 8, 8, 8, 8, 8, 8, 8, 8, 8, 8, 8, 8, 8, 8, 8, 8, 8, 8, 8, 8, 8, 8, 8, 8, 8, 8, 8, 8, 8, 8, 8, 8, 8, 8, 8, 8, 8, 8, 8, 8, 8, 8, 8, 8, 8, 8, 8, 8, 8, 8, 8, 8, 8, 8, 8, 8, 8, 8, 8, 8, 8, 8, 8, 8, 8, 8, 8, 8, 8, 8, 8, 8, 8, 8, 8, 8, 8, 8, 8, 8, 8, 8, 8, 8, 8, 8, 8, 8, 8, 8, 8, 8, 8, 8, 8, 8, 8, 8, 8, 8, 8, 8, 8, 8, 8, 8]) (IntKind.u8.wrap (Int.fdiv (Int.fdiv x0 (2 ^ 16)) (2 ^ 8))))) rfl rfl rfl (core_idxS256 rfl) rfl ?_
   refine GX.q (.int .i64 (IntKind.i64.wrap (strAt (bstr [0, 1, 2, 2, 3, 3, 3, 3, 4, 4, 4, 4, 4, 4, 4, 4, 5, 5, 5, 5, 5, 5, 5, 5, 5, 5, 5, 5, 5, 5, 5, 5, 6, 6, 6, 6, 6, 6, 6, 6, 6, 6, 6, 6, 6, 6, 6, 6, 6, 6, 6, 6, 6, 6, 6, 6, 6, 6, 6, 6, 6, 6, 6, 6, 7, 7, 7, 7, 7, 7, 7, 7, 7, 7, 7, 7, 7, 7, 7, 7, 7, 7, 7, 7, 7, 7, 7, 7, 7, 7, 7, 7, 7, 7, 7, 7, 7, 7, 7, 7, 7, 7, 7, 7, 7, 7, 7, 7, 7, 7, 7, 7, 7, 7, 7, 7, 7, 7, 7, 7, 7, 7, 7, 7, 7, 7, 7, 7, 8, 8, 8, 8, 8, 8, 8, 8, 8, 8, 8, 8, 8, 8, 8, 8, 8, 8, 8, 8, 8, 8, 8, 8, 8, 8, 8, 8, 8, 8, 8, 8, 8, 8, 8, 8, 8, 8, 8, 8, 8, 8, 8, 8, 8, 8, 8, 8, 8, 8, 8, 8, 8, 8, 8, 8, 8, 8, 8, 8, 8, 8, 8, 8, 8, 8, 8, 8, 8, 8, 8, 8, 8, 8, 8, 8, 8, 8, 8, 8, 8, 8, 8, 8, 8, 8, 8, 8, 8, 8, 8, 8, 8, 8, 8, 8, 8, 8, 8, 8, 8, 8, 8, 8, 8, 8, 8, 8, 8, 8, 8, 8, 8, 8, 8, 8, 8, 8, 8, 8, 8, 8, 8, 8, 8, 8, 8, 8]) (IntKind.u8.wrap (Int.fdiv (Int.fdiv x0 (2 ^ 16)) (2 ^ 8)))))) ?_
   refine GX.q (.int .i64 (IntKind.i64.wrap (24 + (IntKind.i64.wrap (strAt (bstr [0, 1, 2, 2, 3, 3, 3, 3, 4, 4, 4, 4, 4, 4, 4, 4, 5, 5, 5, 5, 5, 5, 5, 5, 5, 5, 5, 5, 5, 5, 5, 5, 6, 6, 6, 6, 6, 6, 6, 6, 6, 6, 6, 6, 6, 6, 6, 6, 6, 6, 6, 6, 6, 6, 6, 6, 6, 6, 6, 6, 6, 6, 6, 6, 7, 7, 7, 7, 7, 7, 7, 7, 7, 7, 7, 7, 7, 7, 7, 7, 7, 7, 7, 7, 7, 7, 7, 7, 7, 7, 7, 7, 7, 7, 7, 7, 7, 7, 7, 7, 7, 7, 7, 7, 7, 7, 7, 7, 7, 7, 7, 7, 7, 7, 7, 7, 7, 7, 7, 7, 7, 7, 7, 7, 7, 7, 7, 7, 8, 8, 8, 8, 8, 8, 8, 8, 8, 8, 8, 8, 8, 8, 8, 8, 8, 8, 8, 8, 8, 8, 8, 8, 8, 8, 8, 8, 8, 8, 8, 8, 8, 8, 8, 8, 8, 8, 8, 8, 8, 8, 8, 8, 8, 8, 8, 8, 8, 8, 8, 8, 8, 8, 8, 8, 8, 8, 8, 8, 8, 8, 8, 8, 8, 8, 8, 8, 8, 8, 8, 8, 8, 8, 8, 8, 8, 8, 8, 8, 8, 8, 8, 8, 8, 8, 8, 8, 8, 8, 8, 8, 8, 8, 8, 8, 8, 8, 8, 8, 8, 8, 8, 8, 8, 8, 8, 8, 8, 8, 8, 8, 8, 8, 8, 8, 8, 8, 8, 8, 8, 8, 8, 8, 8, 8, 8, 8]) (IntKind.u8.wrap (Int.fdiv (Int.fdiv x0 (2 ^ 16)) (2 ^ 8)))))))) ?_
   refine GX.m rfl ?_
   refine GX.done ?_
   refine WK.ret ?_
   subst hR
   exact RetQ.fr [] (.inr rfl) rfl rfl rfl rfl

theorem f38_ok (x0 : Int) (R : Int) (hR : F38_bits_LeadingZeros32 x0 = R) : FnOk Tryd.prog 38 [.int .u32 x0] [] 0 (.int .i64 R) [] 0 := by
 refine FnOk.wk i38 rfl rfl ?_
 unfold F38_bits_LeadingZeros32 at hR
 change WK _ _ _ [ac38] _ ⟨[(0, .int .u32 x0)], [], 0⟩
 unfold ac38
 refine WK.sr mixed ?_
 refine GX.m rfl ?_
 refine GX.done ?_
 refine WK.sr mixed ?_
 refine GX.m rfl ?_
 generalize hc4 : F50_bits_Len32 x0 = c4 at hR
 try dsimp only at hR
 refine GX.callp (r := .int .i64 c4) rfl rfl rfl (f50_ok x0 _ hc4) rfl rfl ?_
 refine GX.q (.int .i64 (IntKind.i64.wrap (32 - c4))) ?_
 refine GX.m rfl ?_
 refine GX.done ?_
 refine WK.ret ?_
 subst hR
 exact RetQ.fr [] (.inr rfl) rfl rfl rfl rfl

theorem f19_ok (p0 : TPrefix) (q1 : TPrefix) (R : TPrefix) (hR : F19_addr_Common p0 q1 = R) : FnOk Tryd.prog 19 [.agg (TPrefix.c p0), .agg (TPrefix.c q1)] [] 0 (.agg (TPrefix.c R)) [] 0 := by
 refine FnOk.wk i19 rfl rfl ?_
 unfold F19_addr_Common at hR
 change WK _ _ _ [ac19] _ ⟨[(0, .agg (TPrefix.c p0)), (1, .agg (TPrefix.c q1))], [], 0⟩
 unfold ac19
 refine WK.sr mixed ?_
 refine GX.step (v' := .ptr 0 0) (heap' := [(0, .box (TPrefix.c p0))]) (next' := 1) rfl rfl rfl rfl rfl rfl rfl ?_
 refine GX.step (v' := .ptr 1 0) (heap' := [(0, .box (TPrefix.c p0)), (1, .box (TPrefix.c q1))]) (next' := 2) rfl rfl rfl rfl rfl rfl rfl ?_
 refine GX.step (v' := .ptr 2 0) (heap' := [(0, .box (TPrefix.c p0)), (1, .box (TPrefix.c q1)), (2, .box [.int .u32 0, .int .i64 0])]) (next' := 3) rfl rfl rfl rfl rfl rfl rfl ?_
 refine GX.done ?_
 refine WK.seq ?_
 refine WK.sr mixed ?_
 refine GX.q (.agg (TPrefix.c p0)) ?_
 generalize hc7 : F17_addr_May p0 = c7 at hR
 try dsimp only at hR
 refine GX.callp (r := .bool c7) rfl rfl rfl (f17_ok p0 _ hc7) rfl rfl ?_
 refine GX.q (.bool (!c7)) ?_
 refine GX.m rfl ?_
 rcases bool_two (c7) with hb1 | hb1
 ·rw [hb1]; try simp only [hb1, bb] at hR
  iterate 3 refine GX.skip rfl rfl ?_
  refine GX.q (.bool true) ?_
  refine GX.done ?_
  refine WK.condT rfl ?_
  refine WK.sr mixed ?_
  refine GX.q (.agg [.int .u32 0, .int .i64 0]) ?_
  refine GX.step0 (heap' := [(0, .box (TPrefix.c p0)), (1, .box (TPrefix.c q1)), (2, .box [.int .u32 0, .int .i64 0])]) (next' := 3) rfl rfl rfl rfl rfl ?_
  refine GX.done ?_
  refine WK.ret ?_
  subst hR
  exact RetQ.fr [] (.inr rfl) rfl rfl rfl rfl
 ·rw [hb1]; try simp only [hb1, bb] at hR
  refine GX.q (.agg (TPrefix.c q1)) ?_
  generalize hc11 : F17_addr_May q1 = c11 at hR
  try dsimp only at hR
  refine GX.callp (r := .bool c11) rfl rfl rfl (f17_ok q1 _ hc11) rfl rfl ?_
  iterate 2 refine GX.q (.bool (!c11)) ?_
  refine GX.done ?_
  rcases bool_two (c11) with hb2 | hb2
  ·rw [hb2]; try simp only [hb2, bb] at hR
   refine WK.condT rfl ?_
   refine WK.sr mixed ?_
   refine GX.q (.agg [.int .u32 0, .int .i64 0]) ?_
   refine GX.step0 (heap' := [(0, .box (TPrefix.c p0)), (1, .box (TPrefix.c q1)), (2, .box [.int .u32 0, .int .i64 0])]) (next' := 3) rfl rfl rfl rfl rfl ?_
   refine GX.done ?_
   refine WK.ret ?_
   subst hR
   exact RetQ.fr [] (.inr rfl) rfl rfl rfl rfl
  ·rw [hb2]; try simp only [hb2, bb] at hR
   refine WK.condF rfl ?_
   refine WK.skip ?_
   refine WK.seq ?_
   refine WK.drawn mixed ?_
   refine RD.q (.ptr 0 1) ?_
   refine RD.q (.int .i64 p0.N) ?_
   refine RD.q (.ptr 1 1) ?_
   refine RD.q (.int .i64 q1.N) ?_
   refine RD.q (.ptr 0 0) ?_
   refine RD.q (.int .u32 p0.A) ?_
   refine RD.q (.ptr 1 0) ?_
   refine RD.q (.int .u32 q1.A) ?_
   refine RD.q (.int .u32 (bit_xor .u32 p0.A q1.A)) ?_
   generalize hc24 : F38_bits_LeadingZeros32 (bit_xor .u32 p0.A q1.A) = c24 at hR
   try dsimp only at hR
   refine RD.callp (r := .int .i64 c24) rfl rfl rfl (f38_ok (bit_xor .u32 p0.A q1.A) _ hc24) rfl rfl ?_
   refine RD.q (.int .i64 (min_ (min_ p0.N q1.N) c24)) ?_
   refine RD.m rfl ?_
   refine RD.done rfl ?_
   refine WK.seq ?_
   refine WK.drawn mixed ?_
   refine RD.q (.ptr 0 0) ?_
   refine RD.q (.int .u32 p0.A) ?_
   refine RD.m rfl ?_
   generalize hc29 : F16_addr_Mask (min_ (min_ p0.N q1.N) c24) = c29 at hR
   try dsimp only at hR
   refine RD.callp (r := .int .u32 c29) rfl rfl rfl (f16_ok (min_ (min_ p0.N q1.N) c24) _ hc29) rfl rfl ?_
   refine RD.q (.int .u32 (bit_and .u32 p0.A c29)) ?_
   refine RD.m rfl ?_
   refine RD.q (.agg [.int .u32 (bit_and .u32 p0.A c29), .int .i64 (min_ (min_ p0.N q1.N) c24)]) ?_
   refine RD.step0 (heap' := [(0, .box (TPrefix.c p0)), (1, .box (TPrefix.c q1)), (2, .box [.int .u32 (bit_and .u32 p0.A c29), .int .i64 (min_ (min_ p0.N q1.N) c24)])]) (next' := 3) rfl rfl rfl rfl rfl ?_
   refine RD.done rfl ?_
   refine WK.ret ?_
   subst hR
   exact RetQ.fr [] (.inr rfl) rfl rfl rfl rfl

theorem f23_ok (a0 : Int) (n1 : Int) (R : TPrefix × Int) (hR : F23_addr_Of a0 n1 = R) : FnOk Tryd.prog 23 [.int .u32 a0, .int .i64 n1] [] 0 (.tup [.agg (TPrefix.c R.1), .int .i64 R.2]) [] 0 := by
 refine FnOk.wk i23 rfl rfl ?_
 unfold F23_addr_Of at hR
 change WK _ _ _ [ac23] _ ⟨[(0, .int .u32 a0), (1, .int .i64 n1)], [], 0⟩
 unfold ac23
 refine WK.sr mixed ?_
 refine GX.step (v' := .ptr 0 0) (heap' := [(0, .box [.int .u32 0, .int .i64 0])]) (next' := 1) rfl rfl rfl rfl rfl rfl rfl ?_
 refine GX.m rfl ?_
 refine GX.done ?_
 refine WK.seq ?_
 refine WK.sr mixed ?_
 refine GX.m rfl ?_
 generalize hc7 : F39_addr_isLong n1 = c7 at hR
 try dsimp only at hR
 refine GX.callp (r := .bool c7) rfl rfl rfl (f39_ok n1 _ hc7) rfl rfl ?_
 refine GX.q (.bool (!c7)) ?_
 refine GX.done ?_
 rcases bool_two (c7) with hb1 | hb1
 ·rw [hb1]; try simp only [hb1, bb] at hR
  refine WK.condT rfl ?_
  refine WK.sr mixed ?_
  refine GX.q (.agg [.int .u32 0, .int .i64 0]) ?_
  refine GX.step0 (heap' := [(0, .box [.int .u32 0, .int .i64 0])]) (next' := 1) rfl rfl rfl rfl rfl ?_
  refine GX.m rfl ?_
  refine GX.done ?_
  refine WK.ret ?_
  subst hR
  exact RetQ.fr [] (.inr rfl) rfl rfl rfl rfl
 ·rw [hb1]; try simp only [hb1, bb] at hR
  refine WK.condF rfl ?_
  refine WK.skip ?_
  refine WK.sr mixed ?_
  iterate 2 refine GX.m rfl ?_
  generalize hc12 : F16_addr_Mask n1 = c12 at hR
  try dsimp only at hR
  refine GX.callp (r := .int .u32 c12) rfl rfl rfl (f16_ok n1 _ hc12) rfl rfl ?_
  refine GX.q (.int .u32 (bit_and .u32 a0 c12)) ?_
  refine GX.m rfl ?_
  refine GX.q (.agg [.int .u32 (bit_and .u32 a0 c12), .int .i64 n1]) ?_
  refine GX.step0 (heap' := [(0, .box [.int .u32 (bit_and .u32 a0 c12), .int .i64 n1])]) (next' := 1) rfl rfl rfl rfl rfl ?_
  refine GX.m rfl ?_
  refine GX.done ?_
  refine WK.ret ?_
  subst hR
  exact RetQ.fr [] (.inr rfl) rfl rfl rfl rfl

theorem f7_ok (p0 : TPrefix) (q1 : TPrefix) (a2 : Int) (R : Bool) (hR : F7_crossroadslaw03_AddrBlocks p0 q1 a2 = some R) : FnOk Tryd.prog 7 [.agg (TPrefix.c p0), .agg (TPrefix.c q1), .int .u32 a2] [] 0 (.bool R) [] 0 := by
 refine FnOk.wk i7 rfl rfl ?_
 unfold F7_crossroadslaw03_AddrBlocks at hR
 try dsimp only at hR
 change WK _ _ _ [ac7] _ ⟨[(0, .agg (TPrefix.c p0)), (1, .agg (TPrefix.c q1)), (2, .int .u32 a2)], [], 0⟩
 unfold ac7
 refine WK.sr mixed ?_
 refine GX.step (v' := .ptr 0 0) (heap' := [(0, .box (TPrefix.c p0))]) (next' := 1) rfl rfl rfl rfl rfl rfl rfl ?_
 refine GX.step (v' := .ptr 1 0) (heap' := [(0, .box (TPrefix.c p0)), (1, .box (TPrefix.c q1))]) (next' := 2) rfl rfl rfl rfl rfl rfl rfl ?_
 refine GX.m rfl ?_
 refine GX.done ?_
 refine WK.seq ?_
 refine WK.sr mixed ?_
 refine GX.q (.agg (TPrefix.c p0)) ?_
 generalize hc11 : F17_addr_May p0 = c11 at hR
 try dsimp only at hR
 refine GX.callp (r := .bool c11) rfl rfl rfl (f17_ok p0 _ hc11) rfl rfl ?_
 refine GX.q (.bool (!c11)) ?_
 refine GX.m rfl ?_
 rcases bool_two (c11) with hb1 | hb1
 ·rw [hb1]; first | replace hR := cond_f hb1 hR | (try simp only [hb1, bb] at hR)
  iterate 3 refine GX.skip rfl rfl ?_
  refine GX.q (.bool true) ?_
  refine GX.done ?_
  refine WK.condT rfl ?_
  refine WK.sr mixed ?_
  generalize hc18 : F9_crossroadslaw03_alive = c18 at hR
  rcases c18 with _ | c18
  ·try dsimp only at hR
   cases hR
  try dsimp only at hR
  try dsimp only at hR
  refine GX.callp (r := .bool c18) rfl rfl rfl (f9_ok  _ hc18) rfl rfl ?_
  refine GX.m rfl ?_
  rcases bool_two (c18) with hb2 | hb2
  ·rw [hb2]; first | replace hR := cond_f hb2 hR | (try simp only [hb2, bb] at hR)
   iterate 4 refine GX.skip rfl rfl ?_
   refine GX.q (.bool false) ?_
   refine GX.m rfl ?_
   refine GX.done ?_
   refine WK.ret ?_
   obtain rfl := Option.some.inj hR
   exact RetQ.fr [] (.inr rfl) rfl rfl rfl rfl
  ·rw [hb2]; first | replace hR := cond_t hb2 hR | (try simp only [hb2, bb] at hR)
   refine GX.q (.agg (TPrefix.c p0)) ?_
   refine GX.q (.agg (TPrefix.c q1)) ?_
   generalize hc22 : F14_addr_Covers p0 q1 = c22 at hR
   try dsimp only at hR
   refine GX.callp (r := .bool c22) rfl rfl rfl (f14_ok p0 q1 _ hc22) rfl rfl ?_
   iterate 2 refine GX.q (.bool (!c22)) ?_
   refine GX.m rfl ?_
   refine GX.done ?_
   refine WK.ret ?_
   obtain rfl := Option.some.inj hR
   exact RetQ.fr [] (.inr rfl) rfl rfl rfl rfl
 ·rw [hb1]; first | replace hR := cond_t hb1 hR | (try simp only [hb1, bb] at hR)
  refine GX.q (.agg (TPrefix.c q1)) ?_
  generalize hc15 : F17_addr_May q1 = c15 at hR
  try dsimp only at hR
  refine GX.callp (r := .bool c15) rfl rfl rfl (f17_ok q1 _ hc15) rfl rfl ?_
  iterate 2 refine GX.q (.bool (!c15)) ?_
  refine GX.done ?_
  rcases bool_two (c15) with hb3 | hb3
  ·rw [hb3]; first | replace hR := cond_f hb3 hR | (try simp only [hb3, bb] at hR)
   refine WK.condT rfl ?_
   refine WK.sr mixed ?_
   generalize hc18 : F9_crossroadslaw03_alive = c18 at hR
   rcases c18 with _ | c18
   ·try dsimp only at hR
    cases hR
   try dsimp only at hR
   try dsimp only at hR
   refine GX.callp (r := .bool c18) rfl rfl rfl (f9_ok  _ hc18) rfl rfl ?_
   refine GX.m rfl ?_
   rcases bool_two (c18) with hb4 | hb4
   ·rw [hb4]; first | replace hR := cond_f hb4 hR | (try simp only [hb4, bb] at hR)
    iterate 4 refine GX.skip rfl rfl ?_
    refine GX.q (.bool false) ?_
    refine GX.m rfl ?_
    refine GX.done ?_
    refine WK.ret ?_
    obtain rfl := Option.some.inj hR
    exact RetQ.fr [] (.inr rfl) rfl rfl rfl rfl
   ·rw [hb4]; first | replace hR := cond_t hb4 hR | (try simp only [hb4, bb] at hR)
    refine GX.q (.agg (TPrefix.c p0)) ?_
    refine GX.q (.agg (TPrefix.c q1)) ?_
    generalize hc22 : F14_addr_Covers p0 q1 = c22 at hR
    try dsimp only at hR
    refine GX.callp (r := .bool c22) rfl rfl rfl (f14_ok p0 q1 _ hc22) rfl rfl ?_
    iterate 2 refine GX.q (.bool (!c22)) ?_
    refine GX.m rfl ?_
    refine GX.done ?_
    refine WK.ret ?_
    obtain rfl := Option.some.inj hR
    exact RetQ.fr [] (.inr rfl) rfl rfl rfl rfl
  ·rw [hb3]; first | replace hR := cond_t hb3 hR | (try simp only [hb3, bb] at hR)
   refine WK.condF rfl ?_
   refine WK.skip ?_
   refine WK.seq ?_
   refine WK.sr mixed ?_
   refine GX.q (.agg (TPrefix.c p0)) ?_
   refine GX.m rfl ?_
   generalize hc27 : F22_addr_Has p0 a2 = c27 at hR
   try dsimp only at hR
   refine GX.callp (r := .bool c27) rfl rfl rfl (f22_ok p0 a2 _ hc27) rfl rfl ?_
   refine GX.m rfl ?_
   rcases bool_two (c27) with hb5 | hb5
   ·rw [hb5]; first | replace hR := cond_f hb5 hR | (try simp only [hb5, bb] at hR)
    iterate 3 refine GX.skip rfl rfl ?_
    refine GX.q (.bool false) ?_
    refine GX.m rfl ?_
    iterate 4 refine GX.skip rfl rfl ?_
    refine GX.q (.bool false) ?_
    refine GX.m rfl ?_
    iterate 4 refine GX.skip rfl rfl ?_
    refine GX.q (.bool false) ?_
    refine GX.done ?_
    refine WK.condF rfl ?_
    refine WK.skip ?_
    refine WK.seq ?_
    refine WK.sr mixed ?_
    refine GX.q (.agg (TPrefix.c p0)) ?_
    refine GX.q (.agg (TPrefix.c q1)) ?_
    generalize hc47 : F14_addr_Covers p0 q1 = c47 at hR
    try dsimp only at hR
    refine GX.callp (r := .bool c47) rfl rfl rfl (f14_ok p0 q1 _ hc47) rfl rfl ?_
    refine GX.m rfl ?_
    rcases bool_two (c47) with hb6 | hb6
    ·rw [hb6]; first | replace hR := cond_f hb6 hR | (try simp only [hb6, bb] at hR)
     iterate 3 refine GX.skip rfl rfl ?_
     refine GX.q (.bool false) ?_
     refine GX.m rfl ?_
     iterate 4 refine GX.skip rfl rfl ?_
     refine GX.q (.bool false) ?_
     refine GX.done ?_
     refine WK.condF rfl ?_
     refine WK.skip ?_
     refine WK.sr mixed ?_
     refine GX.q (.agg (TPrefix.c p0)) ?_
     refine GX.q (.agg (TPrefix.c q1)) ?_
     generalize hc61 : F19_addr_Common p0 q1 = c61 at hR
     try dsimp only at hR
     refine GX.callp (r := .agg [.int .u32 c61.A, .int .i64 c61.N]) rfl rfl rfl (f19_ok p0 q1 _ hc61) rfl rfl ?_
     refine GX.step (v' := .ptr 2 0) (heap' := [(0, .box (TPrefix.c p0)), (1, .box (TPrefix.c q1)), (2, .box [.int .u32 0, .int .i64 0])]) (next' := 3) rfl rfl rfl rfl rfl rfl rfl ?_
     refine GX.step0 (heap' := [(0, .box (TPrefix.c p0)), (1, .box (TPrefix.c q1)), (2, .box (TPrefix.c c61))]) (next' := 3) rfl rfl rfl rfl rfl ?_
     refine GX.done ?_
     refine WK.sr mixed ?_
     refine GX.q (.ptr 0 0) ?_
     refine GX.q (.int .u32 p0.A) ?_
     refine GX.q (.ptr 2 1) ?_
     refine GX.q (.int .i64 c61.N) ?_
     refine GX.q (.int .i64 (IntKind.i64.wrap (c61.N + 1))) ?_
     generalize hc68 : F23_addr_Of p0.A (IntKind.i64.wrap (c61.N + 1)) = c68 at hR
     obtain ⟨c68a, c68b⟩ := c68; try dsimp only at hR
     refine GX.callp (r := .tup [.agg [.int .u32 c68a.A, .int .i64 c68a.N], .int .i64 c68b]) rfl rfl rfl (f23_ok p0.A (IntKind.i64.wrap (c61.N + 1)) _ hc68) rfl rfl ?_
     refine GX.m rfl ?_
     refine GX.q (.agg [.int .u32 c68a.A, .int .i64 c68a.N]) ?_
     refine GX.q (.int .i64 c68b) ?_
     refine GX.step (v' := .ptr 3 0) (heap' := [(0, .box (TPrefix.c p0)), (1, .box (TPrefix.c q1)), (2, .box (TPrefix.c c61)), (3, .box [.int .u32 0, .int .i64 0])]) (next' := 4) rfl rfl rfl rfl rfl rfl rfl ?_
     refine GX.step0 (heap' := [(0, .box (TPrefix.c p0)), (1, .box (TPrefix.c q1)), (2, .box (TPrefix.c c61)), (3, .box (TPrefix.c c68a))]) (next' := 4) rfl rfl rfl rfl rfl ?_
     refine GX.m rfl ?_
     refine GX.done ?_
     refine WK.seq ?_
     refine WK.sr mixed ?_
     refine GX.m rfl ?_
     refine GX.q (.bool (decide (c68b = 0))) ?_
     refine GX.m rfl ?_
     rcases bool_two (decide (c68b = 0)) with hb7 | hb7
     ·rw [hb7]; first | replace hR := cond_f hb7 hR | (try simp only [hb7, bb] at hR)
      iterate 3 refine GX.skip rfl rfl ?_
      refine GX.q (.bool false) ?_
      refine GX.m rfl ?_
      iterate 3 refine GX.skip rfl rfl ?_
      refine GX.q (.bool false) ?_
      refine GX.done ?_
      refine WK.condF rfl ?_
      refine WK.skip ?_
      refine WK.seq ?_
      refine WK.drawn mixed ?_
      generalize hc83 : F9_crossroadslaw03_alive = c83 at hR
      rcases c83 with _ | c83
      ·try dsimp only at hR
       cases hR
      try dsimp only at hR
      try dsimp only at hR
      refine RD.callp (r := .bool c83) rfl rfl rfl (f9_ok  _ hc83) rfl rfl ?_
      refine RD.m rfl ?_
      rcases bool_two (c83) with hb8 | hb8
      ·rw [hb8]; first | replace hR := cond_f hb8 hR | (try simp only [hb8, bb] at hR)
       iterate 3 refine RD.skip rfl rfl ?_
       refine RD.q (.bool false) ?_
       refine RD.m rfl ?_
       iterate 3 refine RD.skip rfl rfl ?_
       refine RD.q (.bool false) ?_
       refine RD.m rfl ?_
       iterate 7 refine RD.skip rfl rfl ?_
       refine RD.q (.bool false) ?_
       refine RD.m rfl ?_
       refine RD.done rfl ?_
       refine WK.ret ?_
       obtain rfl := Option.some.inj hR
       exact RetQ.fr [] (.inr rfl) rfl rfl rfl rfl
      ·rw [hb8]; first | replace hR := cond_t hb8 hR | (try simp only [hb8, bb] at hR)
       refine RD.q (.agg (TPrefix.c c61)) ?_
       refine RD.q (.agg (TPrefix.c p0)) ?_
       generalize hc87 : F14_addr_Covers c61 p0 = c87 at hR
       try dsimp only at hR
       refine RD.callp (r := .bool c87) rfl rfl rfl (f14_ok c61 p0 _ hc87) rfl rfl ?_
       refine RD.q (.bool c87) ?_
       refine RD.m rfl ?_
       rcases bool_two (c87) with hb9 | hb9
       ·rw [hb9]; first | replace hR := cond_f hb9 hR | (try simp only [hb9, bb] at hR)
        iterate 3 refine RD.skip rfl rfl ?_
        refine RD.q (.bool false) ?_
        refine RD.m rfl ?_
        iterate 7 refine RD.skip rfl rfl ?_
        refine RD.q (.bool false) ?_
        refine RD.m rfl ?_
        refine RD.done rfl ?_
        refine WK.ret ?_
        obtain rfl := Option.some.inj hR
        exact RetQ.fr [] (.inr rfl) rfl rfl rfl rfl
       ·rw [hb9]; first | replace hR := cond_t hb9 hR | (try simp only [hb9, bb] at hR)
        refine RD.q (.agg (TPrefix.c c61)) ?_
        refine RD.q (.agg (TPrefix.c q1)) ?_
        generalize hc92 : F14_addr_Covers c61 q1 = c92 at hR
        try dsimp only at hR
        refine RD.callp (r := .bool c92) rfl rfl rfl (f14_ok c61 q1 _ hc92) rfl rfl ?_
        refine RD.q (.bool c92) ?_
        refine RD.m rfl ?_
        rcases bool_two (c92) with hb10 | hb10
        ·rw [hb10]; first | replace hR := cond_f hb10 hR | (try simp only [hb10, bb] at hR)
         iterate 7 refine RD.skip rfl rfl ?_
         refine RD.q (.bool false) ?_
         refine RD.m rfl ?_
         refine RD.done rfl ?_
         refine WK.ret ?_
         obtain rfl := Option.some.inj hR
         exact RetQ.fr [] (.inr rfl) rfl rfl rfl rfl
        ·rw [hb10]; first | replace hR := cond_t hb10 hR | (try simp only [hb10, bb] at hR)
         refine RD.q (.agg (TPrefix.c p0)) ?_
         refine RD.q (.agg (TPrefix.c q1)) ?_
         refine RD.callp (r := .bool c47) rfl rfl rfl (f14_ok p0 q1 _ hc47) rfl rfl ?_
         refine RD.q (.agg (TPrefix.c c61)) ?_
         refine RD.q (.agg (TPrefix.c p0)) ?_
         refine RD.q (.bool (decide (c61.A = p0.A) && (decide (c61.N = p0.N) && true))) ?_
         iterate 2 refine RD.q (.bool (c47 == (decide (c61.A = p0.A) && (decide (c61.N = p0.N) && true)))) ?_
         refine RD.m rfl ?_
         refine RD.done rfl ?_
         refine WK.ret ?_
         obtain rfl := Option.some.inj hR
         exact RetQ.fr [] (.inr rfl) rfl rfl rfl rfl
     ·rw [hb7]; first | replace hR := cond_t hb7 hR | (try simp only [hb7, bb] at hR)
      refine GX.q (.agg (TPrefix.c c68a)) ?_
      refine GX.q (.agg (TPrefix.c p0)) ?_
      generalize hc76 : F14_addr_Covers c68a p0 = c76 at hR
      try dsimp only at hR
      refine GX.callp (r := .bool c76) rfl rfl rfl (f14_ok c68a p0 _ hc76) rfl rfl ?_
      refine GX.q (.bool c76) ?_
      refine GX.m rfl ?_
      rcases bool_two (c76) with hb11 | hb11
      ·rw [hb11]; first | replace hR := cond_f hb11 hR | (try simp only [hb11, bb] at hR)
       iterate 3 refine GX.skip rfl rfl ?_
       refine GX.q (.bool false) ?_
       refine GX.done ?_
       refine WK.condF rfl ?_
       refine WK.skip ?_
       refine WK.seq ?_
       refine WK.drawn mixed ?_
       generalize hc83 : F9_crossroadslaw03_alive = c83 at hR
       rcases c83 with _ | c83
       ·try dsimp only at hR
        cases hR
       try dsimp only at hR
       try dsimp only at hR
       refine RD.callp (r := .bool c83) rfl rfl rfl (f9_ok  _ hc83) rfl rfl ?_
       refine RD.m rfl ?_
       rcases bool_two (c83) with hb12 | hb12
       ·rw [hb12]; first | replace hR := cond_f hb12 hR | (try simp only [hb12, bb] at hR)
        iterate 3 refine RD.skip rfl rfl ?_
        refine RD.q (.bool false) ?_
        refine RD.m rfl ?_
        iterate 3 refine RD.skip rfl rfl ?_
        refine RD.q (.bool false) ?_
        refine RD.m rfl ?_
        iterate 7 refine RD.skip rfl rfl ?_
        refine RD.q (.bool false) ?_
        refine RD.m rfl ?_
        refine RD.done rfl ?_
        refine WK.ret ?_
        obtain rfl := Option.some.inj hR
        exact RetQ.fr [] (.inr rfl) rfl rfl rfl rfl
       ·rw [hb12]; first | replace hR := cond_t hb12 hR | (try simp only [hb12, bb] at hR)
        refine RD.q (.agg (TPrefix.c c61)) ?_
        refine RD.q (.agg (TPrefix.c p0)) ?_
        generalize hc87 : F14_addr_Covers c61 p0 = c87 at hR
        try dsimp only at hR
        refine RD.callp (r := .bool c87) rfl rfl rfl (f14_ok c61 p0 _ hc87) rfl rfl ?_
        refine RD.q (.bool c87) ?_
        refine RD.m rfl ?_
        rcases bool_two (c87) with hb13 | hb13
        ·rw [hb13]; first | replace hR := cond_f hb13 hR | (try simp only [hb13, bb] at hR)
         iterate 3 refine RD.skip rfl rfl ?_
         refine RD.q (.bool false) ?_
         refine RD.m rfl ?_
         iterate 7 refine RD.skip rfl rfl ?_
         refine RD.q (.bool false) ?_
         refine RD.m rfl ?_
         refine RD.done rfl ?_
         refine WK.ret ?_
         obtain rfl := Option.some.inj hR
         exact RetQ.fr [] (.inr rfl) rfl rfl rfl rfl
        ·rw [hb13]; first | replace hR := cond_t hb13 hR | (try simp only [hb13, bb] at hR)
         refine RD.q (.agg (TPrefix.c c61)) ?_
         refine RD.q (.agg (TPrefix.c q1)) ?_
         generalize hc92 : F14_addr_Covers c61 q1 = c92 at hR
         try dsimp only at hR
         refine RD.callp (r := .bool c92) rfl rfl rfl (f14_ok c61 q1 _ hc92) rfl rfl ?_
         refine RD.q (.bool c92) ?_
         refine RD.m rfl ?_
         rcases bool_two (c92) with hb14 | hb14
         ·rw [hb14]; first | replace hR := cond_f hb14 hR | (try simp only [hb14, bb] at hR)
          iterate 7 refine RD.skip rfl rfl ?_
          refine RD.q (.bool false) ?_
          refine RD.m rfl ?_
          refine RD.done rfl ?_
          refine WK.ret ?_
          obtain rfl := Option.some.inj hR
          exact RetQ.fr [] (.inr rfl) rfl rfl rfl rfl
         ·rw [hb14]; first | replace hR := cond_t hb14 hR | (try simp only [hb14, bb] at hR)
          refine RD.q (.agg (TPrefix.c p0)) ?_
          refine RD.q (.agg (TPrefix.c q1)) ?_
          refine RD.callp (r := .bool c47) rfl rfl rfl (f14_ok p0 q1 _ hc47) rfl rfl ?_
          refine RD.q (.agg (TPrefix.c c61)) ?_
          refine RD.q (.agg (TPrefix.c p0)) ?_
          refine RD.q (.bool (decide (c61.A = p0.A) && (decide (c61.N = p0.N) && true))) ?_
          iterate 2 refine RD.q (.bool (c47 == (decide (c61.A = p0.A) && (decide (c61.N = p0.N) && true)))) ?_
          refine RD.m rfl ?_
          refine RD.done rfl ?_
          refine WK.ret ?_
          obtain rfl := Option.some.inj hR
          exact RetQ.fr [] (.inr rfl) rfl rfl rfl rfl
      ·rw [hb11]; first | replace hR := cond_t hb11 hR | (try simp only [hb11, bb] at hR)
       refine GX.q (.agg (TPrefix.c c68a)) ?_
       refine GX.q (.agg (TPrefix.c q1)) ?_
       generalize hc81 : F14_addr_Covers c68a q1 = c81 at hR
       try dsimp only at hR
       refine GX.callp (r := .bool c81) rfl rfl rfl (f14_ok c68a q1 _ hc81) rfl rfl ?_
       refine GX.q (.bool c81) ?_
       refine GX.done ?_
       rcases bool_two (c81) with hb15 | hb15
       ·rw [hb15]; first | replace hR := cond_f hb15 hR | (try simp only [hb15, bb] at hR)
        refine WK.condF rfl ?_
        refine WK.skip ?_
        refine WK.seq ?_
        refine WK.drawn mixed ?_
        generalize hc83 : F9_crossroadslaw03_alive = c83 at hR
        rcases c83 with _ | c83
        ·try dsimp only at hR
         cases hR
        try dsimp only at hR
        try dsimp only at hR
        refine RD.callp (r := .bool c83) rfl rfl rfl (f9_ok  _ hc83) rfl rfl ?_
        refine RD.m rfl ?_
        rcases bool_two (c83) with hb16 | hb16
        ·rw [hb16]; first | replace hR := cond_f hb16 hR | (try simp only [hb16, bb] at hR)
         iterate 3 refine RD.skip rfl rfl ?_
         refine RD.q (.bool false) ?_
         refine RD.m rfl ?_
         iterate 3 refine RD.skip rfl rfl ?_
         refine RD.q (.bool false) ?_
         refine RD.m rfl ?_
         iterate 7 refine RD.skip rfl rfl ?_
         refine RD.q (.bool false) ?_
         refine RD.m rfl ?_
         refine RD.done rfl ?_
         refine WK.ret ?_
         obtain rfl := Option.some.inj hR
         exact RetQ.fr [] (.inr rfl) rfl rfl rfl rfl
        ·rw [hb16]; first | replace hR := cond_t hb16 hR | (try simp only [hb16, bb] at hR)
         refine RD.q (.agg (TPrefix.c c61)) ?_
         refine RD.q (.agg (TPrefix.c p0)) ?_
         generalize hc87 : F14_addr_Covers c61 p0 = c87 at hR
         try dsimp only at hR
         refine RD.callp (r := .bool c87) rfl rfl rfl (f14_ok c61 p0 _ hc87) rfl rfl ?_
         refine RD.q (.bool c87) ?_
         refine RD.m rfl ?_
         rcases bool_two (c87) with hb17 | hb17
         ·rw [hb17]; first | replace hR := cond_f hb17 hR | (try simp only [hb17, bb] at hR)
          iterate 3 refine RD.skip rfl rfl ?_
          refine RD.q (.bool false) ?_
          refine RD.m rfl ?_
          iterate 7 refine RD.skip rfl rfl ?_
          refine RD.q (.bool false) ?_
          refine RD.m rfl ?_
          refine RD.done rfl ?_
          refine WK.ret ?_
          obtain rfl := Option.some.inj hR
          exact RetQ.fr [] (.inr rfl) rfl rfl rfl rfl
         ·rw [hb17]; first | replace hR := cond_t hb17 hR | (try simp only [hb17, bb] at hR)
          refine RD.q (.agg (TPrefix.c c61)) ?_
          refine RD.q (.agg (TPrefix.c q1)) ?_
          generalize hc92 : F14_addr_Covers c61 q1 = c92 at hR
          try dsimp only at hR
          refine RD.callp (r := .bool c92) rfl rfl rfl (f14_ok c61 q1 _ hc92) rfl rfl ?_
          refine RD.q (.bool c92) ?_
          refine RD.m rfl ?_
          rcases bool_two (c92) with hb18 | hb18
          ·rw [hb18]; first | replace hR := cond_f hb18 hR | (try simp only [hb18, bb] at hR)
           iterate 7 refine RD.skip rfl rfl ?_
           refine RD.q (.bool false) ?_
           refine RD.m rfl ?_
           refine RD.done rfl ?_
           refine WK.ret ?_
           obtain rfl := Option.some.inj hR
           exact RetQ.fr [] (.inr rfl) rfl rfl rfl rfl
          ·rw [hb18]; first | replace hR := cond_t hb18 hR | (try simp only [hb18, bb] at hR)
           refine RD.q (.agg (TPrefix.c p0)) ?_
           refine RD.q (.agg (TPrefix.c q1)) ?_
           refine RD.callp (r := .bool c47) rfl rfl rfl (f14_ok p0 q1 _ hc47) rfl rfl ?_
           refine RD.q (.agg (TPrefix.c c61)) ?_
           refine RD.q (.agg (TPrefix.c p0)) ?_
           refine RD.q (.bool (decide (c61.A = p0.A) && (decide (c61.N = p0.N) && true))) ?_
           iterate 2 refine RD.q (.bool (c47 == (decide (c61.A = p0.A) && (decide (c61.N = p0.N) && true)))) ?_
           refine RD.m rfl ?_
           refine RD.done rfl ?_
           refine WK.ret ?_
           obtain rfl := Option.some.inj hR
           exact RetQ.fr [] (.inr rfl) rfl rfl rfl rfl
       ·rw [hb15]; first | replace hR := cond_t hb15 hR | (try simp only [hb15, bb] at hR)
        refine WK.condT rfl ?_
        refine WK.sr mixed ?_
        refine GX.m rfl ?_
        refine GX.done ?_
        refine WK.ret ?_
        obtain rfl := Option.some.inj hR
        exact RetQ.fr [] (.inr rfl) rfl rfl rfl rfl
    ·rw [hb6]; first | replace hR := cond_t hb6 hR | (try simp only [hb6, bb] at hR)
     refine GX.q (.agg (TPrefix.c q1)) ?_
     refine GX.m rfl ?_
     generalize hc51 : F22_addr_Has q1 a2 = c51 at hR
     try dsimp only at hR
     refine GX.callp (r := .bool c51) rfl rfl rfl (f22_ok q1 a2 _ hc51) rfl rfl ?_
     refine GX.q (.bool c51) ?_
     refine GX.m rfl ?_
     rcases bool_two (c51) with hb19 | hb19
     ·rw [hb19]; first | replace hR := cond_f hb19 hR | (try simp only [hb19, bb] at hR)
      iterate 4 refine GX.skip rfl rfl ?_
      refine GX.q (.bool false) ?_
      refine GX.done ?_
      refine WK.condF rfl ?_
      refine WK.skip ?_
      refine WK.sr mixed ?_
      refine GX.q (.agg (TPrefix.c p0)) ?_
      refine GX.q (.agg (TPrefix.c q1)) ?_
      generalize hc61 : F19_addr_Common p0 q1 = c61 at hR
      try dsimp only at hR
      refine GX.callp (r := .agg [.int .u32 c61.A, .int .i64 c61.N]) rfl rfl rfl (f19_ok p0 q1 _ hc61) rfl rfl ?_
      refine GX.step (v' := .ptr 2 0) (heap' := [(0, .box (TPrefix.c p0)), (1, .box (TPrefix.c q1)), (2, .box [.int .u32 0, .int .i64 0])]) (next' := 3) rfl rfl rfl rfl rfl rfl rfl ?_
      refine GX.step0 (heap' := [(0, .box (TPrefix.c p0)), (1, .box (TPrefix.c q1)), (2, .box (TPrefix.c c61))]) (next' := 3) rfl rfl rfl rfl rfl ?_
      refine GX.done ?_
      refine WK.sr mixed ?_
      refine GX.q (.ptr 0 0) ?_
      refine GX.q (.int .u32 p0.A) ?_
      refine GX.q (.ptr 2 1) ?_
      refine GX.q (.int .i64 c61.N) ?_
      refine GX.q (.int .i64 (IntKind.i64.wrap (c61.N + 1))) ?_
      generalize hc68 : F23_addr_Of p0.A (IntKind.i64.wrap (c61.N + 1)) = c68 at hR
      obtain ⟨c68a, c68b⟩ := c68; try dsimp only at hR
      refine GX.callp (r := .tup [.agg [.int .u32 c68a.A, .int .i64 c68a.N], .int .i64 c68b]) rfl rfl rfl (f23_ok p0.A (IntKind.i64.wrap (c61.N + 1)) _ hc68) rfl rfl ?_
      refine GX.m rfl ?_
      refine GX.q (.agg [.int .u32 c68a.A, .int .i64 c68a.N]) ?_
      refine GX.q (.int .i64 c68b) ?_
      refine GX.step (v' := .ptr 3 0) (heap' := [(0, .box (TPrefix.c p0)), (1, .box (TPrefix.c q1)), (2, .box (TPrefix.c c61)), (3, .box [.int .u32 0, .int .i64 0])]) (next' := 4) rfl rfl rfl rfl rfl rfl rfl ?_
      refine GX.step0 (heap' := [(0, .box (TPrefix.c p0)), (1, .box (TPrefix.c q1)), (2, .box (TPrefix.c c61)), (3, .box (TPrefix.c c68a))]) (next' := 4) rfl rfl rfl rfl rfl ?_
      refine GX.m rfl ?_
      refine GX.done ?_
      refine WK.seq ?_
      refine WK.sr mixed ?_
      refine GX.m rfl ?_
      refine GX.q (.bool (decide (c68b = 0))) ?_
      refine GX.m rfl ?_
      rcases bool_two (decide (c68b = 0)) with hb20 | hb20
      ·rw [hb20]; first | replace hR := cond_f hb20 hR | (try simp only [hb20, bb] at hR)
       iterate 3 refine GX.skip rfl rfl ?_
       refine GX.q (.bool false) ?_
       refine GX.m rfl ?_
       iterate 3 refine GX.skip rfl rfl ?_
       refine GX.q (.bool false) ?_
       refine GX.done ?_
       refine WK.condF rfl ?_
       refine WK.skip ?_
       refine WK.seq ?_
       refine WK.drawn mixed ?_
       generalize hc83 : F9_crossroadslaw03_alive = c83 at hR
       rcases c83 with _ | c83
       ·try dsimp only at hR
        cases hR
       try dsimp only at hR
       try dsimp only at hR
       refine RD.callp (r := .bool c83) rfl rfl rfl (f9_ok  _ hc83) rfl rfl ?_
       refine RD.m rfl ?_
       rcases bool_two (c83) with hb21 | hb21
       ·rw [hb21]; first | replace hR := cond_f hb21 hR | (try simp only [hb21, bb] at hR)
        iterate 3 refine RD.skip rfl rfl ?_
        refine RD.q (.bool false) ?_
        refine RD.m rfl ?_
        iterate 3 refine RD.skip rfl rfl ?_
        refine RD.q (.bool false) ?_
        refine RD.m rfl ?_
        iterate 7 refine RD.skip rfl rfl ?_
        refine RD.q (.bool false) ?_
        refine RD.m rfl ?_
        refine RD.done rfl ?_
        refine WK.ret ?_
        obtain rfl := Option.some.inj hR
        exact RetQ.fr [] (.inr rfl) rfl rfl rfl rfl
       ·rw [hb21]; first | replace hR := cond_t hb21 hR | (try simp only [hb21, bb] at hR)
        refine RD.q (.agg (TPrefix.c c61)) ?_
        refine RD.q (.agg (TPrefix.c p0)) ?_
        generalize hc87 : F14_addr_Covers c61 p0 = c87 at hR
        try dsimp only at hR
        refine RD.callp (r := .bool c87) rfl rfl rfl (f14_ok c61 p0 _ hc87) rfl rfl ?_
        refine RD.q (.bool c87) ?_
        refine RD.m rfl ?_
        rcases bool_two (c87) with hb22 | hb22
        ·rw [hb22]; first | replace hR := cond_f hb22 hR | (try simp only [hb22, bb] at hR)
         iterate 3 refine RD.skip rfl rfl ?_
         refine RD.q (.bool false) ?_
         refine RD.m rfl ?_
         iterate 7 refine RD.skip rfl rfl ?_
         refine RD.q (.bool false) ?_
         refine RD.m rfl ?_
         refine RD.done rfl ?_
         refine WK.ret ?_
         obtain rfl := Option.some.inj hR
         exact RetQ.fr [] (.inr rfl) rfl rfl rfl rfl
        ·rw [hb22]; first | replace hR := cond_t hb22 hR | (try simp only [hb22, bb] at hR)
         refine RD.q (.agg (TPrefix.c c61)) ?_
         refine RD.q (.agg (TPrefix.c q1)) ?_
         generalize hc92 : F14_addr_Covers c61 q1 = c92 at hR
         try dsimp only at hR
         refine RD.callp (r := .bool c92) rfl rfl rfl (f14_ok c61 q1 _ hc92) rfl rfl ?_
         refine RD.q (.bool c92) ?_
         refine RD.m rfl ?_
         rcases bool_two (c92) with hb23 | hb23
         ·rw [hb23]; first | replace hR := cond_f hb23 hR | (try simp only [hb23, bb] at hR)
          iterate 7 refine RD.skip rfl rfl ?_
          refine RD.q (.bool false) ?_
          refine RD.m rfl ?_
          refine RD.done rfl ?_
          refine WK.ret ?_
          obtain rfl := Option.some.inj hR
          exact RetQ.fr [] (.inr rfl) rfl rfl rfl rfl
         ·rw [hb23]; first | replace hR := cond_t hb23 hR | (try simp only [hb23, bb] at hR)
          refine RD.q (.agg (TPrefix.c p0)) ?_
          refine RD.q (.agg (TPrefix.c q1)) ?_
          refine RD.callp (r := .bool c47) rfl rfl rfl (f14_ok p0 q1 _ hc47) rfl rfl ?_
          refine RD.q (.agg (TPrefix.c c61)) ?_
          refine RD.q (.agg (TPrefix.c p0)) ?_
          refine RD.q (.bool (decide (c61.A = p0.A) && (decide (c61.N = p0.N) && true))) ?_
          iterate 2 refine RD.q (.bool (c47 == (decide (c61.A = p0.A) && (decide (c61.N = p0.N) && true)))) ?_
          refine RD.m rfl ?_
          refine RD.done rfl ?_
          refine WK.ret ?_
          obtain rfl := Option.some.inj hR
          exact RetQ.fr [] (.inr rfl) rfl rfl rfl rfl
      ·rw [hb20]; first | replace hR := cond_t hb20 hR | (try simp only [hb20, bb] at hR)
       refine GX.q (.agg (TPrefix.c c68a)) ?_
       refine GX.q (.agg (TPrefix.c p0)) ?_
       generalize hc76 : F14_addr_Covers c68a p0 = c76 at hR
       try dsimp only at hR
       refine GX.callp (r := .bool c76) rfl rfl rfl (f14_ok c68a p0 _ hc76) rfl rfl ?_
       refine GX.q (.bool c76) ?_
       refine GX.m rfl ?_
       rcases bool_two (c76) with hb24 | hb24
       ·rw [hb24]; first | replace hR := cond_f hb24 hR | (try simp only [hb24, bb] at hR)
        iterate 3 refine GX.skip rfl rfl ?_
        refine GX.q (.bool false) ?_
        refine GX.done ?_
        refine WK.condF rfl ?_
        refine WK.skip ?_
        refine WK.seq ?_
        refine WK.drawn mixed ?_
        generalize hc83 : F9_crossroadslaw03_alive = c83 at hR
        rcases c83 with _ | c83
        ·try dsimp only at hR
         cases hR
        try dsimp only at hR
        try dsimp only at hR
        refine RD.callp (r := .bool c83) rfl rfl rfl (f9_ok  _ hc83) rfl rfl ?_
        refine RD.m rfl ?_
        rcases bool_two (c83) with hb25 | hb25
        ·rw [hb25]; first | replace hR := cond_f hb25 hR | (try simp only [hb25, bb] at hR)
         iterate 3 refine RD.skip rfl rfl ?_
         refine RD.q (.bool false) ?_
         refine RD.m rfl ?_
         iterate 3 refine RD.skip rfl rfl ?_
         refine RD.q (.bool false) ?_
         refine RD.m rfl ?_
         iterate 7 refine RD.skip rfl rfl ?_
         refine RD.q (.bool false) ?_
         refine RD.m rfl ?_
         refine RD.done rfl ?_
         refine WK.ret ?_
         obtain rfl := Option.some.inj hR
         exact RetQ.fr [] (.inr rfl) rfl rfl rfl rfl
        ·rw [hb25]; first | replace hR := cond_t hb25 hR | (try simp only [hb25, bb] at hR)
         refine RD.q (.agg (TPrefix.c c61)) ?_
         refine RD.q (.agg (TPrefix.c p0)) ?_
         generalize hc87 : F14_addr_Covers c61 p0 = c87 at hR
         try dsimp only at hR
         refine RD.callp (r := .bool c87) rfl rfl rfl (f14_ok c61 p0 _ hc87) rfl rfl ?_
         refine RD.q (.bool c87) ?_
         refine RD.m rfl ?_
         rcases bool_two (c87) with hb26 | hb26
         ·rw [hb26]; first | replace hR := cond_f hb26 hR | (try simp only [hb26, bb] at hR)
          iterate 3 refine RD.skip rfl rfl ?_
          refine RD.q (.bool false) ?_
          refine RD.m rfl ?_
          iterate 7 refine RD.skip rfl rfl ?_
          refine RD.q (.bool false) ?_
          refine RD.m rfl ?_
          refine RD.done rfl ?_
          refine WK.ret ?_
          obtain rfl := Option.some.inj hR
          exact RetQ.fr [] (.inr rfl) rfl rfl rfl rfl
         ·rw [hb26]; first | replace hR := cond_t hb26 hR | (try simp only [hb26, bb] at hR)
          refine RD.q (.agg (TPrefix.c c61)) ?_
          refine RD.q (.agg (TPrefix.c q1)) ?_
          generalize hc92 : F14_addr_Covers c61 q1 = c92 at hR
          try dsimp only at hR
          refine RD.callp (r := .bool c92) rfl rfl rfl (f14_ok c61 q1 _ hc92) rfl rfl ?_
          refine RD.q (.bool c92) ?_
          refine RD.m rfl ?_
          rcases bool_two (c92) with hb27 | hb27
          ·rw [hb27]; first | replace hR := cond_f hb27 hR | (try simp only [hb27, bb] at hR)
           iterate 7 refine RD.skip rfl rfl ?_
           refine RD.q (.bool false) ?_
           refine RD.m rfl ?_
           refine RD.done rfl ?_
           refine WK.ret ?_
           obtain rfl := Option.some.inj hR
           exact RetQ.fr [] (.inr rfl) rfl rfl rfl rfl
          ·rw [hb27]; first | replace hR := cond_t hb27 hR | (try simp only [hb27, bb] at hR)
           refine RD.q (.agg (TPrefix.c p0)) ?_
           refine RD.q (.agg (TPrefix.c q1)) ?_
           refine RD.callp (r := .bool c47) rfl rfl rfl (f14_ok p0 q1 _ hc47) rfl rfl ?_
           refine RD.q (.agg (TPrefix.c c61)) ?_
           refine RD.q (.agg (TPrefix.c p0)) ?_
           refine RD.q (.bool (decide (c61.A = p0.A) && (decide (c61.N = p0.N) && true))) ?_
           iterate 2 refine RD.q (.bool (c47 == (decide (c61.A = p0.A) && (decide (c61.N = p0.N) && true)))) ?_
           refine RD.m rfl ?_
           refine RD.done rfl ?_
           refine WK.ret ?_
           obtain rfl := Option.some.inj hR
           exact RetQ.fr [] (.inr rfl) rfl rfl rfl rfl
       ·rw [hb24]; first | replace hR := cond_t hb24 hR | (try simp only [hb24, bb] at hR)
        refine GX.q (.agg (TPrefix.c c68a)) ?_
        refine GX.q (.agg (TPrefix.c q1)) ?_
        generalize hc81 : F14_addr_Covers c68a q1 = c81 at hR
        try dsimp only at hR
        refine GX.callp (r := .bool c81) rfl rfl rfl (f14_ok c68a q1 _ hc81) rfl rfl ?_
        refine GX.q (.bool c81) ?_
        refine GX.done ?_
        rcases bool_two (c81) with hb28 | hb28
        ·rw [hb28]; first | replace hR := cond_f hb28 hR | (try simp only [hb28, bb] at hR)
         refine WK.condF rfl ?_
         refine WK.skip ?_
         refine WK.seq ?_
         refine WK.drawn mixed ?_
         generalize hc83 : F9_crossroadslaw03_alive = c83 at hR
         rcases c83 with _ | c83
         ·try dsimp only at hR
          cases hR
         try dsimp only at hR
         try dsimp only at hR
         refine RD.callp (r := .bool c83) rfl rfl rfl (f9_ok  _ hc83) rfl rfl ?_
         refine RD.m rfl ?_
         rcases bool_two (c83) with hb29 | hb29
         ·rw [hb29]; first | replace hR := cond_f hb29 hR | (try simp only [hb29, bb] at hR)
          iterate 3 refine RD.skip rfl rfl ?_
          refine RD.q (.bool false) ?_
          refine RD.m rfl ?_
          iterate 3 refine RD.skip rfl rfl ?_
          refine RD.q (.bool false) ?_
          refine RD.m rfl ?_
          iterate 7 refine RD.skip rfl rfl ?_
          refine RD.q (.bool false) ?_
          refine RD.m rfl ?_
          refine RD.done rfl ?_
          refine WK.ret ?_
          obtain rfl := Option.some.inj hR
          exact RetQ.fr [] (.inr rfl) rfl rfl rfl rfl
         ·rw [hb29]; first | replace hR := cond_t hb29 hR | (try simp only [hb29, bb] at hR)
          refine RD.q (.agg (TPrefix.c c61)) ?_
          refine RD.q (.agg (TPrefix.c p0)) ?_
          generalize hc87 : F14_addr_Covers c61 p0 = c87 at hR
          try dsimp only at hR
          refine RD.callp (r := .bool c87) rfl rfl rfl (f14_ok c61 p0 _ hc87) rfl rfl ?_
          refine RD.q (.bool c87) ?_
          refine RD.m rfl ?_
          rcases bool_two (c87) with hb30 | hb30
          ·rw [hb30]; first | replace hR := cond_f hb30 hR | (try simp only [hb30, bb] at hR)
           iterate 3 refine RD.skip rfl rfl ?_
           refine RD.q (.bool false) ?_
           refine RD.m rfl ?_
           iterate 7 refine RD.skip rfl rfl ?_
           refine RD.q (.bool false) ?_
           refine RD.m rfl ?_
           refine RD.done rfl ?_
           refine WK.ret ?_
           obtain rfl := Option.some.inj hR
           exact RetQ.fr [] (.inr rfl) rfl rfl rfl rfl
          ·rw [hb30]; first | replace hR := cond_t hb30 hR | (try simp only [hb30, bb] at hR)
           refine RD.q (.agg (TPrefix.c c61)) ?_
           refine RD.q (.agg (TPrefix.c q1)) ?_
           generalize hc92 : F14_addr_Covers c61 q1 = c92 at hR
           try dsimp only at hR
           refine RD.callp (r := .bool c92) rfl rfl rfl (f14_ok c61 q1 _ hc92) rfl rfl ?_
           refine RD.q (.bool c92) ?_
           refine RD.m rfl ?_
           rcases bool_two (c92) with hb31 | hb31
           ·rw [hb31]; first | replace hR := cond_f hb31 hR | (try simp only [hb31, bb] at hR)
            iterate 7 refine RD.skip rfl rfl ?_
            refine RD.q (.bool false) ?_
            refine RD.m rfl ?_
            refine RD.done rfl ?_
            refine WK.ret ?_
            obtain rfl := Option.some.inj hR
            exact RetQ.fr [] (.inr rfl) rfl rfl rfl rfl
           ·rw [hb31]; first | replace hR := cond_t hb31 hR | (try simp only [hb31, bb] at hR)
            refine RD.q (.agg (TPrefix.c p0)) ?_
            refine RD.q (.agg (TPrefix.c q1)) ?_
            refine RD.callp (r := .bool c47) rfl rfl rfl (f14_ok p0 q1 _ hc47) rfl rfl ?_
            refine RD.q (.agg (TPrefix.c c61)) ?_
            refine RD.q (.agg (TPrefix.c p0)) ?_
            refine RD.q (.bool (decide (c61.A = p0.A) && (decide (c61.N = p0.N) && true))) ?_
            iterate 2 refine RD.q (.bool (c47 == (decide (c61.A = p0.A) && (decide (c61.N = p0.N) && true)))) ?_
            refine RD.m rfl ?_
            refine RD.done rfl ?_
            refine WK.ret ?_
            obtain rfl := Option.some.inj hR
            exact RetQ.fr [] (.inr rfl) rfl rfl rfl rfl
        ·rw [hb28]; first | replace hR := cond_t hb28 hR | (try simp only [hb28, bb] at hR)
         refine WK.condT rfl ?_
         refine WK.sr mixed ?_
         refine GX.m rfl ?_
         refine GX.done ?_
         refine WK.ret ?_
         obtain rfl := Option.some.inj hR
         exact RetQ.fr [] (.inr rfl) rfl rfl rfl rfl
     ·rw [hb19]; first | replace hR := cond_t hb19 hR | (try simp only [hb19, bb] at hR)
      refine GX.q (.agg (TPrefix.c p0)) ?_
      refine GX.m rfl ?_
      refine GX.callp (r := .bool c27) rfl rfl rfl (f22_ok p0 a2 _ hc27) rfl rfl ?_
      iterate 2 refine GX.q (.bool (!c27)) ?_
      refine GX.done ?_
      rw [hb5]
      refine WK.condT rfl ?_
      refine WK.sr mixed ?_
      refine GX.m rfl ?_
      refine GX.done ?_
      refine WK.ret ?_
      obtain rfl := Option.some.inj hR
      exact RetQ.fr [] (.inr rfl) rfl rfl rfl rfl
   ·rw [hb5]; first | replace hR := cond_t hb5 hR | (try simp only [hb5, bb] at hR)
    refine GX.q (.agg (TPrefix.c q1)) ?_
    refine GX.m rfl ?_
    generalize hc31 : F22_addr_Has q1 a2 = c31 at hR
    try dsimp only at hR
    refine GX.callp (r := .bool c31) rfl rfl rfl (f22_ok q1 a2 _ hc31) rfl rfl ?_
    refine GX.q (.bool c31) ?_
    refine GX.m rfl ?_
    rcases bool_two (c31) with hb32 | hb32
    ·rw [hb32]; first | replace hR := cond_f hb32 hR | (try simp only [hb32, bb] at hR)
     iterate 4 refine GX.skip rfl rfl ?_
     refine GX.q (.bool false) ?_
     refine GX.m rfl ?_
     iterate 4 refine GX.skip rfl rfl ?_
     refine GX.q (.bool false) ?_
     refine GX.done ?_
     refine WK.condF rfl ?_
     refine WK.skip ?_
     refine WK.seq ?_
     refine WK.sr mixed ?_
     refine GX.q (.agg (TPrefix.c p0)) ?_
     refine GX.q (.agg (TPrefix.c q1)) ?_
     generalize hc47 : F14_addr_Covers p0 q1 = c47 at hR
     try dsimp only at hR
     refine GX.callp (r := .bool c47) rfl rfl rfl (f14_ok p0 q1 _ hc47) rfl rfl ?_
     refine GX.m rfl ?_
     rcases bool_two (c47) with hb33 | hb33
     ·rw [hb33]; first | replace hR := cond_f hb33 hR | (try simp only [hb33, bb] at hR)
      iterate 3 refine GX.skip rfl rfl ?_
      refine GX.q (.bool false) ?_
      refine GX.m rfl ?_
      iterate 4 refine GX.skip rfl rfl ?_
      refine GX.q (.bool false) ?_
      refine GX.done ?_
      refine WK.condF rfl ?_
      refine WK.skip ?_
      refine WK.sr mixed ?_
      refine GX.q (.agg (TPrefix.c p0)) ?_
      refine GX.q (.agg (TPrefix.c q1)) ?_
      generalize hc61 : F19_addr_Common p0 q1 = c61 at hR
      try dsimp only at hR
      refine GX.callp (r := .agg [.int .u32 c61.A, .int .i64 c61.N]) rfl rfl rfl (f19_ok p0 q1 _ hc61) rfl rfl ?_
      refine GX.step (v' := .ptr 2 0) (heap' := [(0, .box (TPrefix.c p0)), (1, .box (TPrefix.c q1)), (2, .box [.int .u32 0, .int .i64 0])]) (next' := 3) rfl rfl rfl rfl rfl rfl rfl ?_
      refine GX.step0 (heap' := [(0, .box (TPrefix.c p0)), (1, .box (TPrefix.c q1)), (2, .box (TPrefix.c c61))]) (next' := 3) rfl rfl rfl rfl rfl ?_
      refine GX.done ?_
      refine WK.sr mixed ?_
      refine GX.q (.ptr 0 0) ?_
      refine GX.q (.int .u32 p0.A) ?_
      refine GX.q (.ptr 2 1) ?_
      refine GX.q (.int .i64 c61.N) ?_
      refine GX.q (.int .i64 (IntKind.i64.wrap (c61.N + 1))) ?_
      generalize hc68 : F23_addr_Of p0.A (IntKind.i64.wrap (c61.N + 1)) = c68 at hR
      obtain ⟨c68a, c68b⟩ := c68; try dsimp only at hR
      refine GX.callp (r := .tup [.agg [.int .u32 c68a.A, .int .i64 c68a.N], .int .i64 c68b]) rfl rfl rfl (f23_ok p0.A (IntKind.i64.wrap (c61.N + 1)) _ hc68) rfl rfl ?_
      refine GX.m rfl ?_
      refine GX.q (.agg [.int .u32 c68a.A, .int .i64 c68a.N]) ?_
      refine GX.q (.int .i64 c68b) ?_
      refine GX.step (v' := .ptr 3 0) (heap' := [(0, .box (TPrefix.c p0)), (1, .box (TPrefix.c q1)), (2, .box (TPrefix.c c61)), (3, .box [.int .u32 0, .int .i64 0])]) (next' := 4) rfl rfl rfl rfl rfl rfl rfl ?_
      refine GX.step0 (heap' := [(0, .box (TPrefix.c p0)), (1, .box (TPrefix.c q1)), (2, .box (TPrefix.c c61)), (3, .box (TPrefix.c c68a))]) (next' := 4) rfl rfl rfl rfl rfl ?_
      refine GX.m rfl ?_
      refine GX.done ?_
      refine WK.seq ?_
      refine WK.sr mixed ?_
      refine GX.m rfl ?_
      refine GX.q (.bool (decide (c68b = 0))) ?_
      refine GX.m rfl ?_
      rcases bool_two (decide (c68b = 0)) with hb34 | hb34
      ·rw [hb34]; first | replace hR := cond_f hb34 hR | (try simp only [hb34, bb] at hR)
       iterate 3 refine GX.skip rfl rfl ?_
       refine GX.q (.bool false) ?_
       refine GX.m rfl ?_
       iterate 3 refine GX.skip rfl rfl ?_
       refine GX.q (.bool false) ?_
       refine GX.done ?_
       refine WK.condF rfl ?_
       refine WK.skip ?_
       refine WK.seq ?_
       refine WK.drawn mixed ?_
       generalize hc83 : F9_crossroadslaw03_alive = c83 at hR
       rcases c83 with _ | c83
       ·try dsimp only at hR
        cases hR
       try dsimp only at hR
       try dsimp only at hR
       refine RD.callp (r := .bool c83) rfl rfl rfl (f9_ok  _ hc83) rfl rfl ?_
       refine RD.m rfl ?_
       rcases bool_two (c83) with hb35 | hb35
       ·rw [hb35]; first | replace hR := cond_f hb35 hR | (try simp only [hb35, bb] at hR)
        iterate 3 refine RD.skip rfl rfl ?_
        refine RD.q (.bool false) ?_
        refine RD.m rfl ?_
        iterate 3 refine RD.skip rfl rfl ?_
        refine RD.q (.bool false) ?_
        refine RD.m rfl ?_
        iterate 7 refine RD.skip rfl rfl ?_
        refine RD.q (.bool false) ?_
        refine RD.m rfl ?_
        refine RD.done rfl ?_
        refine WK.ret ?_
        obtain rfl := Option.some.inj hR
        exact RetQ.fr [] (.inr rfl) rfl rfl rfl rfl
       ·rw [hb35]; first | replace hR := cond_t hb35 hR | (try simp only [hb35, bb] at hR)
        refine RD.q (.agg (TPrefix.c c61)) ?_
        refine RD.q (.agg (TPrefix.c p0)) ?_
        generalize hc87 : F14_addr_Covers c61 p0 = c87 at hR
        try dsimp only at hR
        refine RD.callp (r := .bool c87) rfl rfl rfl (f14_ok c61 p0 _ hc87) rfl rfl ?_
        refine RD.q (.bool c87) ?_
        refine RD.m rfl ?_
        rcases bool_two (c87) with hb36 | hb36
        ·rw [hb36]; first | replace hR := cond_f hb36 hR | (try simp only [hb36, bb] at hR)
         iterate 3 refine RD.skip rfl rfl ?_
         refine RD.q (.bool false) ?_
         refine RD.m rfl ?_
         iterate 7 refine RD.skip rfl rfl ?_
         refine RD.q (.bool false) ?_
         refine RD.m rfl ?_
         refine RD.done rfl ?_
         refine WK.ret ?_
         obtain rfl := Option.some.inj hR
         exact RetQ.fr [] (.inr rfl) rfl rfl rfl rfl
        ·rw [hb36]; first | replace hR := cond_t hb36 hR | (try simp only [hb36, bb] at hR)
         refine RD.q (.agg (TPrefix.c c61)) ?_
         refine RD.q (.agg (TPrefix.c q1)) ?_
         generalize hc92 : F14_addr_Covers c61 q1 = c92 at hR
         try dsimp only at hR
         refine RD.callp (r := .bool c92) rfl rfl rfl (f14_ok c61 q1 _ hc92) rfl rfl ?_
         refine RD.q (.bool c92) ?_
         refine RD.m rfl ?_
         rcases bool_two (c92) with hb37 | hb37
         ·rw [hb37]; first | replace hR := cond_f hb37 hR | (try simp only [hb37, bb] at hR)
          iterate 7 refine RD.skip rfl rfl ?_
          refine RD.q (.bool false) ?_
          refine RD.m rfl ?_
          refine RD.done rfl ?_
          refine WK.ret ?_
          obtain rfl := Option.some.inj hR
          exact RetQ.fr [] (.inr rfl) rfl rfl rfl rfl
         ·rw [hb37]; first | replace hR := cond_t hb37 hR | (try simp only [hb37, bb] at hR)
          refine RD.q (.agg (TPrefix.c p0)) ?_
          refine RD.q (.agg (TPrefix.c q1)) ?_
          refine RD.callp (r := .bool c47) rfl rfl rfl (f14_ok p0 q1 _ hc47) rfl rfl ?_
          refine RD.q (.agg (TPrefix.c c61)) ?_
          refine RD.q (.agg (TPrefix.c p0)) ?_
          refine RD.q (.bool (decide (c61.A = p0.A) && (decide (c61.N = p0.N) && true))) ?_
          iterate 2 refine RD.q (.bool (c47 == (decide (c61.A = p0.A) && (decide (c61.N = p0.N) && true)))) ?_
          refine RD.m rfl ?_
          refine RD.done rfl ?_
          refine WK.ret ?_
          obtain rfl := Option.some.inj hR
          exact RetQ.fr [] (.inr rfl) rfl rfl rfl rfl
      ·rw [hb34]; first | replace hR := cond_t hb34 hR | (try simp only [hb34, bb] at hR)
       refine GX.q (.agg (TPrefix.c c68a)) ?_
       refine GX.q (.agg (TPrefix.c p0)) ?_
       generalize hc76 : F14_addr_Covers c68a p0 = c76 at hR
       try dsimp only at hR
       refine GX.callp (r := .bool c76) rfl rfl rfl (f14_ok c68a p0 _ hc76) rfl rfl ?_
       refine GX.q (.bool c76) ?_
       refine GX.m rfl ?_
       rcases bool_two (c76) with hb38 | hb38
       ·rw [hb38]; first | replace hR := cond_f hb38 hR | (try simp only [hb38, bb] at hR)
        iterate 3 refine GX.skip rfl rfl ?_
        refine GX.q (.bool false) ?_
        refine GX.done ?_
        refine WK.condF rfl ?_
        refine WK.skip ?_
        refine WK.seq ?_
        refine WK.drawn mixed ?_
        generalize hc83 : F9_crossroadslaw03_alive = c83 at hR
        rcases c83 with _ | c83
        ·try dsimp only at hR
         cases hR
        try dsimp only at hR
        try dsimp only at hR
        refine RD.callp (r := .bool c83) rfl rfl rfl (f9_ok  _ hc83) rfl rfl ?_
        refine RD.m rfl ?_
        rcases bool_two (c83) with hb39 | hb39
        ·rw [hb39]; first | replace hR := cond_f hb39 hR | (try simp only [hb39, bb] at hR)
         iterate 3 refine RD.skip rfl rfl ?_
         refine RD.q (.bool false) ?_
         refine RD.m rfl ?_
         iterate 3 refine RD.skip rfl rfl ?_
         refine RD.q (.bool false) ?_
         refine RD.m rfl ?_
         iterate 7 refine RD.skip rfl rfl ?_
         refine RD.q (.bool false) ?_
         refine RD.m rfl ?_
         refine RD.done rfl ?_
         refine WK.ret ?_
         obtain rfl := Option.some.inj hR
         exact RetQ.fr [] (.inr rfl) rfl rfl rfl rfl
        ·rw [hb39]; first | replace hR := cond_t hb39 hR | (try simp only [hb39, bb] at hR)
         refine RD.q (.agg (TPrefix.c c61)) ?_
         refine RD.q (.agg (TPrefix.c p0)) ?_
         generalize hc87 : F14_addr_Covers c61 p0 = c87 at hR
         try dsimp only at hR
         refine RD.callp (r := .bool c87) rfl rfl rfl (f14_ok c61 p0 _ hc87) rfl rfl ?_
         refine RD.q (.bool c87) ?_
         refine RD.m rfl ?_
         rcases bool_two (c87) with hb40 | hb40
         ·rw [hb40]; first | replace hR := cond_f hb40 hR | (try simp only [hb40, bb] at hR)
          iterate 3 refine RD.skip rfl rfl ?_
          refine RD.q (.bool false) ?_
          refine RD.m rfl ?_
          iterate 7 refine RD.skip rfl rfl ?_
          refine RD.q (.bool false) ?_
          refine RD.m rfl ?_
          refine RD.done rfl ?_
          refine WK.ret ?_
          obtain rfl := Option.some.inj hR
          exact RetQ.fr [] (.inr rfl) rfl rfl rfl rfl
         ·rw [hb40]; first | replace hR := cond_t hb40 hR | (try simp only [hb40, bb] at hR)
          refine RD.q (.agg (TPrefix.c c61)) ?_
          refine RD.q (.agg (TPrefix.c q1)) ?_
          generalize hc92 : F14_addr_Covers c61 q1 = c92 at hR
          try dsimp only at hR
          refine RD.callp (r := .bool c92) rfl rfl rfl (f14_ok c61 q1 _ hc92) rfl rfl ?_
          refine RD.q (.bool c92) ?_
          refine RD.m rfl ?_
          rcases bool_two (c92) with hb41 | hb41
          ·rw [hb41]; first | replace hR := cond_f hb41 hR | (try simp only [hb41, bb] at hR)
           iterate 7 refine RD.skip rfl rfl ?_
           refine RD.q (.bool false) ?_
           refine RD.m rfl ?_
           refine RD.done rfl ?_
           refine WK.ret ?_
           obtain rfl := Option.some.inj hR
           exact RetQ.fr [] (.inr rfl) rfl rfl rfl rfl
          ·rw [hb41]; first | replace hR := cond_t hb41 hR | (try simp only [hb41, bb] at hR)
           refine RD.q (.agg (TPrefix.c p0)) ?_
           refine RD.q (.agg (TPrefix.c q1)) ?_
           refine RD.callp (r := .bool c47) rfl rfl rfl (f14_ok p0 q1 _ hc47) rfl rfl ?_
           refine RD.q (.agg (TPrefix.c c61)) ?_
           refine RD.q (.agg (TPrefix.c p0)) ?_
           refine RD.q (.bool (decide (c61.A = p0.A) && (decide (c61.N = p0.N) && true))) ?_
           iterate 2 refine RD.q (.bool (c47 == (decide (c61.A = p0.A) && (decide (c61.N = p0.N) && true)))) ?_
           refine RD.m rfl ?_
           refine RD.done rfl ?_
           refine WK.ret ?_
           obtain rfl := Option.some.inj hR
           exact RetQ.fr [] (.inr rfl) rfl rfl rfl rfl
       ·rw [hb38]; first | replace hR := cond_t hb38 hR | (try simp only [hb38, bb] at hR)
        refine GX.q (.agg (TPrefix.c c68a)) ?_
        refine GX.q (.agg (TPrefix.c q1)) ?_
        generalize hc81 : F14_addr_Covers c68a q1 = c81 at hR
        try dsimp only at hR
        refine GX.callp (r := .bool c81) rfl rfl rfl (f14_ok c68a q1 _ hc81) rfl rfl ?_
        refine GX.q (.bool c81) ?_
        refine GX.done ?_
        rcases bool_two (c81) with hb42 | hb42
        ·rw [hb42]; first | replace hR := cond_f hb42 hR | (try simp only [hb42, bb] at hR)
         refine WK.condF rfl ?_
         refine WK.skip ?_
         refine WK.seq ?_
         refine WK.drawn mixed ?_
         generalize hc83 : F9_crossroadslaw03_alive = c83 at hR
         rcases c83 with _ | c83
         ·try dsimp only at hR
          cases hR
         try dsimp only at hR
         try dsimp only at hR
         refine RD.callp (r := .bool c83) rfl rfl rfl (f9_ok  _ hc83) rfl rfl ?_
         refine RD.m rfl ?_
         rcases bool_two (c83) with hb43 | hb43
         ·rw [hb43]; first | replace hR := cond_f hb43 hR | (try simp only [hb43, bb] at hR)
          iterate 3 refine RD.skip rfl rfl ?_
          refine RD.q (.bool false) ?_
          refine RD.m rfl ?_
          iterate 3 refine RD.skip rfl rfl ?_
          refine RD.q (.bool false) ?_
          refine RD.m rfl ?_
          iterate 7 refine RD.skip rfl rfl ?_
          refine RD.q (.bool false) ?_
          refine RD.m rfl ?_
          refine RD.done rfl ?_
          refine WK.ret ?_
          obtain rfl := Option.some.inj hR
          exact RetQ.fr [] (.inr rfl) rfl rfl rfl rfl
         ·rw [hb43]; first | replace hR := cond_t hb43 hR | (try simp only [hb43, bb] at hR)
          refine RD.q (.agg (TPrefix.c c61)) ?_
          refine RD.q (.agg (TPrefix.c p0)) ?_
          generalize hc87 : F14_addr_Covers c61 p0 = c87 at hR
          try dsimp only at hR
          refine RD.callp (r := .bool c87) rfl rfl rfl (f14_ok c61 p0 _ hc87) rfl rfl ?_
          refine RD.q (.bool c87) ?_
          refine RD.m rfl ?_
          rcases bool_two (c87) with hb44 | hb44
          ·rw [hb44]; first | replace hR := cond_f hb44 hR | (try simp only [hb44, bb] at hR)
           iterate 3 refine RD.skip rfl rfl ?_
           refine RD.q (.bool false) ?_
           refine RD.m rfl ?_
           iterate 7 refine RD.skip rfl rfl ?_
           refine RD.q (.bool false) ?_
           refine RD.m rfl ?_
           refine RD.done rfl ?_
           refine WK.ret ?_
           obtain rfl := Option.some.inj hR
           exact RetQ.fr [] (.inr rfl) rfl rfl rfl rfl
          ·rw [hb44]; first | replace hR := cond_t hb44 hR | (try simp only [hb44, bb] at hR)
           refine RD.q (.agg (TPrefix.c c61)) ?_
           refine RD.q (.agg (TPrefix.c q1)) ?_
           generalize hc92 : F14_addr_Covers c61 q1 = c92 at hR
           try dsimp only at hR
           refine RD.callp (r := .bool c92) rfl rfl rfl (f14_ok c61 q1 _ hc92) rfl rfl ?_
           refine RD.q (.bool c92) ?_
           refine RD.m rfl ?_
           rcases bool_two (c92) with hb45 | hb45
           ·rw [hb45]; first | replace hR := cond_f hb45 hR | (try simp only [hb45, bb] at hR)
            iterate 7 refine RD.skip rfl rfl ?_
            refine RD.q (.bool false) ?_
            refine RD.m rfl ?_
            refine RD.done rfl ?_
            refine WK.ret ?_
            obtain rfl := Option.some.inj hR
            exact RetQ.fr [] (.inr rfl) rfl rfl rfl rfl
           ·rw [hb45]; first | replace hR := cond_t hb45 hR | (try simp only [hb45, bb] at hR)
            refine RD.q (.agg (TPrefix.c p0)) ?_
            refine RD.q (.agg (TPrefix.c q1)) ?_
            refine RD.callp (r := .bool c47) rfl rfl rfl (f14_ok p0 q1 _ hc47) rfl rfl ?_
            refine RD.q (.agg (TPrefix.c c61)) ?_
            refine RD.q (.agg (TPrefix.c p0)) ?_
            refine RD.q (.bool (decide (c61.A = p0.A) && (decide (c61.N = p0.N) && true))) ?_
            iterate 2 refine RD.q (.bool (c47 == (decide (c61.A = p0.A) && (decide (c61.N = p0.N) && true)))) ?_
            refine RD.m rfl ?_
            refine RD.done rfl ?_
            refine WK.ret ?_
            obtain rfl := Option.some.inj hR
            exact RetQ.fr [] (.inr rfl) rfl rfl rfl rfl
        ·rw [hb42]; first | replace hR := cond_t hb42 hR | (try simp only [hb42, bb] at hR)
         refine WK.condT rfl ?_
         refine WK.sr mixed ?_
         refine GX.m rfl ?_
         refine GX.done ?_
         refine WK.ret ?_
         obtain rfl := Option.some.inj hR
         exact RetQ.fr [] (.inr rfl) rfl rfl rfl rfl
     ·rw [hb33]; first | replace hR := cond_t hb33 hR | (try simp only [hb33, bb] at hR)
      refine GX.q (.agg (TPrefix.c q1)) ?_
      refine GX.m rfl ?_
      refine GX.callp (r := .bool c31) rfl rfl rfl (f22_ok q1 a2 _ hc31) rfl rfl ?_
      refine GX.pure (v' := .bool false) rfl rfl rfl rfl (congrArg PVal.bool hb32) ?_
      refine GX.m rfl ?_
      iterate 4 refine GX.skip rfl rfl ?_
      refine GX.q (.bool false) ?_
      refine GX.done ?_
      refine WK.condF rfl ?_
      refine WK.skip ?_
      refine WK.sr mixed ?_
      refine GX.q (.agg (TPrefix.c p0)) ?_
      refine GX.q (.agg (TPrefix.c q1)) ?_
      generalize hc61 : F19_addr_Common p0 q1 = c61 at hR
      try dsimp only at hR
      refine GX.callp (r := .agg [.int .u32 c61.A, .int .i64 c61.N]) rfl rfl rfl (f19_ok p0 q1 _ hc61) rfl rfl ?_
      refine GX.step (v' := .ptr 2 0) (heap' := [(0, .box (TPrefix.c p0)), (1, .box (TPrefix.c q1)), (2, .box [.int .u32 0, .int .i64 0])]) (next' := 3) rfl rfl rfl rfl rfl rfl rfl ?_
      refine GX.step0 (heap' := [(0, .box (TPrefix.c p0)), (1, .box (TPrefix.c q1)), (2, .box (TPrefix.c c61))]) (next' := 3) rfl rfl rfl rfl rfl ?_
      refine GX.done ?_
      refine WK.sr mixed ?_
      refine GX.q (.ptr 0 0) ?_
      refine GX.q (.int .u32 p0.A) ?_
      refine GX.q (.ptr 2 1) ?_
      refine GX.q (.int .i64 c61.N) ?_
      refine GX.q (.int .i64 (IntKind.i64.wrap (c61.N + 1))) ?_
      generalize hc68 : F23_addr_Of p0.A (IntKind.i64.wrap (c61.N + 1)) = c68 at hR
      obtain ⟨c68a, c68b⟩ := c68; try dsimp only at hR
      refine GX.callp (r := .tup [.agg [.int .u32 c68a.A, .int .i64 c68a.N], .int .i64 c68b]) rfl rfl rfl (f23_ok p0.A (IntKind.i64.wrap (c61.N + 1)) _ hc68) rfl rfl ?_
      refine GX.m rfl ?_
      refine GX.q (.agg [.int .u32 c68a.A, .int .i64 c68a.N]) ?_
      refine GX.q (.int .i64 c68b) ?_
      refine GX.step (v' := .ptr 3 0) (heap' := [(0, .box (TPrefix.c p0)), (1, .box (TPrefix.c q1)), (2, .box (TPrefix.c c61)), (3, .box [.int .u32 0, .int .i64 0])]) (next' := 4) rfl rfl rfl rfl rfl rfl rfl ?_
      refine GX.step0 (heap' := [(0, .box (TPrefix.c p0)), (1, .box (TPrefix.c q1)), (2, .box (TPrefix.c c61)), (3, .box (TPrefix.c c68a))]) (next' := 4) rfl rfl rfl rfl rfl ?_
      refine GX.m rfl ?_
      refine GX.done ?_
      refine WK.seq ?_
      refine WK.sr mixed ?_
      refine GX.m rfl ?_
      refine GX.q (.bool (decide (c68b = 0))) ?_
      refine GX.m rfl ?_
      rcases bool_two (decide (c68b = 0)) with hb46 | hb46
      ·rw [hb46]; first | replace hR := cond_f hb46 hR | (try simp only [hb46, bb] at hR)
       iterate 3 refine GX.skip rfl rfl ?_
       refine GX.q (.bool false) ?_
       refine GX.m rfl ?_
       iterate 3 refine GX.skip rfl rfl ?_
       refine GX.q (.bool false) ?_
       refine GX.done ?_
       refine WK.condF rfl ?_
       refine WK.skip ?_
       refine WK.seq ?_
       refine WK.drawn mixed ?_
       generalize hc83 : F9_crossroadslaw03_alive = c83 at hR
       rcases c83 with _ | c83
       ·try dsimp only at hR
        cases hR
       try dsimp only at hR
       try dsimp only at hR
       refine RD.callp (r := .bool c83) rfl rfl rfl (f9_ok  _ hc83) rfl rfl ?_
       refine RD.m rfl ?_
       rcases bool_two (c83) with hb47 | hb47
       ·rw [hb47]; first | replace hR := cond_f hb47 hR | (try simp only [hb47, bb] at hR)
        iterate 3 refine RD.skip rfl rfl ?_
        refine RD.q (.bool false) ?_
        refine RD.m rfl ?_
        iterate 3 refine RD.skip rfl rfl ?_
        refine RD.q (.bool false) ?_
        refine RD.m rfl ?_
        iterate 7 refine RD.skip rfl rfl ?_
        refine RD.q (.bool false) ?_
        refine RD.m rfl ?_
        refine RD.done rfl ?_
        refine WK.ret ?_
        obtain rfl := Option.some.inj hR
        exact RetQ.fr [] (.inr rfl) rfl rfl rfl rfl
       ·rw [hb47]; first | replace hR := cond_t hb47 hR | (try simp only [hb47, bb] at hR)
        refine RD.q (.agg (TPrefix.c c61)) ?_
        refine RD.q (.agg (TPrefix.c p0)) ?_
        generalize hc87 : F14_addr_Covers c61 p0 = c87 at hR
        try dsimp only at hR
        refine RD.callp (r := .bool c87) rfl rfl rfl (f14_ok c61 p0 _ hc87) rfl rfl ?_
        refine RD.q (.bool c87) ?_
        refine RD.m rfl ?_
        rcases bool_two (c87) with hb48 | hb48
        ·rw [hb48]; first | replace hR := cond_f hb48 hR | (try simp only [hb48, bb] at hR)
         iterate 3 refine RD.skip rfl rfl ?_
         refine RD.q (.bool false) ?_
         refine RD.m rfl ?_
         iterate 7 refine RD.skip rfl rfl ?_
         refine RD.q (.bool false) ?_
         refine RD.m rfl ?_
         refine RD.done rfl ?_
         refine WK.ret ?_
         obtain rfl := Option.some.inj hR
         exact RetQ.fr [] (.inr rfl) rfl rfl rfl rfl
        ·rw [hb48]; first | replace hR := cond_t hb48 hR | (try simp only [hb48, bb] at hR)
         refine RD.q (.agg (TPrefix.c c61)) ?_
         refine RD.q (.agg (TPrefix.c q1)) ?_
         generalize hc92 : F14_addr_Covers c61 q1 = c92 at hR
         try dsimp only at hR
         refine RD.callp (r := .bool c92) rfl rfl rfl (f14_ok c61 q1 _ hc92) rfl rfl ?_
         refine RD.q (.bool c92) ?_
         refine RD.m rfl ?_
         rcases bool_two (c92) with hb49 | hb49
         ·rw [hb49]; first | replace hR := cond_f hb49 hR | (try simp only [hb49, bb] at hR)
          iterate 7 refine RD.skip rfl rfl ?_
          refine RD.q (.bool false) ?_
          refine RD.m rfl ?_
          refine RD.done rfl ?_
          refine WK.ret ?_
          obtain rfl := Option.some.inj hR
          exact RetQ.fr [] (.inr rfl) rfl rfl rfl rfl
         ·rw [hb49]; first | replace hR := cond_t hb49 hR | (try simp only [hb49, bb] at hR)
          refine RD.q (.agg (TPrefix.c p0)) ?_
          refine RD.q (.agg (TPrefix.c q1)) ?_
          refine RD.callp (r := .bool c47) rfl rfl rfl (f14_ok p0 q1 _ hc47) rfl rfl ?_
          refine RD.q (.agg (TPrefix.c c61)) ?_
          refine RD.q (.agg (TPrefix.c p0)) ?_
          refine RD.q (.bool (decide (c61.A = p0.A) && (decide (c61.N = p0.N) && true))) ?_
          iterate 2 refine RD.q (.bool (c47 == (decide (c61.A = p0.A) && (decide (c61.N = p0.N) && true)))) ?_
          refine RD.m rfl ?_
          refine RD.done rfl ?_
          refine WK.ret ?_
          obtain rfl := Option.some.inj hR
          exact RetQ.fr [] (.inr rfl) rfl rfl rfl rfl
      ·rw [hb46]; first | replace hR := cond_t hb46 hR | (try simp only [hb46, bb] at hR)
       refine GX.q (.agg (TPrefix.c c68a)) ?_
       refine GX.q (.agg (TPrefix.c p0)) ?_
       generalize hc76 : F14_addr_Covers c68a p0 = c76 at hR
       try dsimp only at hR
       refine GX.callp (r := .bool c76) rfl rfl rfl (f14_ok c68a p0 _ hc76) rfl rfl ?_
       refine GX.q (.bool c76) ?_
       refine GX.m rfl ?_
       rcases bool_two (c76) with hb50 | hb50
       ·rw [hb50]; first | replace hR := cond_f hb50 hR | (try simp only [hb50, bb] at hR)
        iterate 3 refine GX.skip rfl rfl ?_
        refine GX.q (.bool false) ?_
        refine GX.done ?_
        refine WK.condF rfl ?_
        refine WK.skip ?_
        refine WK.seq ?_
        refine WK.drawn mixed ?_
        generalize hc83 : F9_crossroadslaw03_alive = c83 at hR
        rcases c83 with _ | c83
        ·try dsimp only at hR
         cases hR
        try dsimp only at hR
        try dsimp only at hR
        refine RD.callp (r := .bool c83) rfl rfl rfl (f9_ok  _ hc83) rfl rfl ?_
        refine RD.m rfl ?_
        rcases bool_two (c83) with hb51 | hb51
        ·rw [hb51]; first | replace hR := cond_f hb51 hR | (try simp only [hb51, bb] at hR)
         iterate 3 refine RD.skip rfl rfl ?_
         refine RD.q (.bool false) ?_
         refine RD.m rfl ?_
         iterate 3 refine RD.skip rfl rfl ?_
         refine RD.q (.bool false) ?_
         refine RD.m rfl ?_
         iterate 7 refine RD.skip rfl rfl ?_
         refine RD.q (.bool false) ?_
         refine RD.m rfl ?_
         refine RD.done rfl ?_
         refine WK.ret ?_
         obtain rfl := Option.some.inj hR
         exact RetQ.fr [] (.inr rfl) rfl rfl rfl rfl
        ·rw [hb51]; first | replace hR := cond_t hb51 hR | (try simp only [hb51, bb] at hR)
         refine RD.q (.agg (TPrefix.c c61)) ?_
         refine RD.q (.agg (TPrefix.c p0)) ?_
         generalize hc87 : F14_addr_Covers c61 p0 = c87 at hR
         try dsimp only at hR
         refine RD.callp (r := .bool c87) rfl rfl rfl (f14_ok c61 p0 _ hc87) rfl rfl ?_
         refine RD.q (.bool c87) ?_
         refine RD.m rfl ?_
         rcases bool_two (c87) with hb52 | hb52
         ·rw [hb52]; first | replace hR := cond_f hb52 hR | (try simp only [hb52, bb] at hR)
          iterate 3 refine RD.skip rfl rfl ?_
          refine RD.q (.bool false) ?_
          refine RD.m rfl ?_
          iterate 7 refine RD.skip rfl rfl ?_
          refine RD.q (.bool false) ?_
          refine RD.m rfl ?_
          refine RD.done rfl ?_
          refine WK.ret ?_
          obtain rfl := Option.some.inj hR
          exact RetQ.fr [] (.inr rfl) rfl rfl rfl rfl
         ·rw [hb52]; first | replace hR := cond_t hb52 hR | (try simp only [hb52, bb] at hR)
          refine RD.q (.agg (TPrefix.c c61)) ?_
          refine RD.q (.agg (TPrefix.c q1)) ?_
          generalize hc92 : F14_addr_Covers c61 q1 = c92 at hR
          try dsimp only at hR
          refine RD.callp (r := .bool c92) rfl rfl rfl (f14_ok c61 q1 _ hc92) rfl rfl ?_
          refine RD.q (.bool c92) ?_
          refine RD.m rfl ?_
          rcases bool_two (c92) with hb53 | hb53
          ·rw [hb53]; first | replace hR := cond_f hb53 hR | (try simp only [hb53, bb] at hR)
           iterate 7 refine RD.skip rfl rfl ?_
           refine RD.q (.bool false) ?_
           refine RD.m rfl ?_
           refine RD.done rfl ?_
           refine WK.ret ?_
           obtain rfl := Option.some.inj hR
           exact RetQ.fr [] (.inr rfl) rfl rfl rfl rfl
          ·rw [hb53]; first | replace hR := cond_t hb53 hR | (try simp only [hb53, bb] at hR)
           refine RD.q (.agg (TPrefix.c p0)) ?_
           refine RD.q (.agg (TPrefix.c q1)) ?_
           refine RD.callp (r := .bool c47) rfl rfl rfl (f14_ok p0 q1 _ hc47) rfl rfl ?_
           refine RD.q (.agg (TPrefix.c c61)) ?_
           refine RD.q (.agg (TPrefix.c p0)) ?_
           refine RD.q (.bool (decide (c61.A = p0.A) && (decide (c61.N = p0.N) && true))) ?_
           iterate 2 refine RD.q (.bool (c47 == (decide (c61.A = p0.A) && (decide (c61.N = p0.N) && true)))) ?_
           refine RD.m rfl ?_
           refine RD.done rfl ?_
           refine WK.ret ?_
           obtain rfl := Option.some.inj hR
           exact RetQ.fr [] (.inr rfl) rfl rfl rfl rfl
       ·rw [hb50]; first | replace hR := cond_t hb50 hR | (try simp only [hb50, bb] at hR)
        refine GX.q (.agg (TPrefix.c c68a)) ?_
        refine GX.q (.agg (TPrefix.c q1)) ?_
        generalize hc81 : F14_addr_Covers c68a q1 = c81 at hR
        try dsimp only at hR
        refine GX.callp (r := .bool c81) rfl rfl rfl (f14_ok c68a q1 _ hc81) rfl rfl ?_
        refine GX.q (.bool c81) ?_
        refine GX.done ?_
        rcases bool_two (c81) with hb54 | hb54
        ·rw [hb54]; first | replace hR := cond_f hb54 hR | (try simp only [hb54, bb] at hR)
         refine WK.condF rfl ?_
         refine WK.skip ?_
         refine WK.seq ?_
         refine WK.drawn mixed ?_
         generalize hc83 : F9_crossroadslaw03_alive = c83 at hR
         rcases c83 with _ | c83
         ·try dsimp only at hR
          cases hR
         try dsimp only at hR
         try dsimp only at hR
         refine RD.callp (r := .bool c83) rfl rfl rfl (f9_ok  _ hc83) rfl rfl ?_
         refine RD.m rfl ?_
         rcases bool_two (c83) with hb55 | hb55
         ·rw [hb55]; first | replace hR := cond_f hb55 hR | (try simp only [hb55, bb] at hR)
          iterate 3 refine RD.skip rfl rfl ?_
          refine RD.q (.bool false) ?_
          refine RD.m rfl ?_
          iterate 3 refine RD.skip rfl rfl ?_
          refine RD.q (.bool false) ?_
          refine RD.m rfl ?_
          iterate 7 refine RD.skip rfl rfl ?_
          refine RD.q (.bool false) ?_
          refine RD.m rfl ?_
          refine RD.done rfl ?_
          refine WK.ret ?_
          obtain rfl := Option.some.inj hR
          exact RetQ.fr [] (.inr rfl) rfl rfl rfl rfl
         ·rw [hb55]; first | replace hR := cond_t hb55 hR | (try simp only [hb55, bb] at hR)
          refine RD.q (.agg (TPrefix.c c61)) ?_
          refine RD.q (.agg (TPrefix.c p0)) ?_
          generalize hc87 : F14_addr_Covers c61 p0 = c87 at hR
          try dsimp only at hR
          refine RD.callp (r := .bool c87) rfl rfl rfl (f14_ok c61 p0 _ hc87) rfl rfl ?_
          refine RD.q (.bool c87) ?_
          refine RD.m rfl ?_
          rcases bool_two (c87) with hb56 | hb56
          ·rw [hb56]; first | replace hR := cond_f hb56 hR | (try simp only [hb56, bb] at hR)
           iterate 3 refine RD.skip rfl rfl ?_
           refine RD.q (.bool false) ?_
           refine RD.m rfl ?_
           iterate 7 refine RD.skip rfl rfl ?_
           refine RD.q (.bool false) ?_
           refine RD.m rfl ?_
           refine RD.done rfl ?_
           refine WK.ret ?_
           obtain rfl := Option.some.inj hR
           exact RetQ.fr [] (.inr rfl) rfl rfl rfl rfl
          ·rw [hb56]; first | replace hR := cond_t hb56 hR | (try simp only [hb56, bb] at hR)
           refine RD.q (.agg (TPrefix.c c61)) ?_
           refine RD.q (.agg (TPrefix.c q1)) ?_
           generalize hc92 : F14_addr_Covers c61 q1 = c92 at hR
           try dsimp only at hR
           refine RD.callp (r := .bool c92) rfl rfl rfl (f14_ok c61 q1 _ hc92) rfl rfl ?_
           refine RD.q (.bool c92) ?_
           refine RD.m rfl ?_
           rcases bool_two (c92) with hb57 | hb57
           ·rw [hb57]; first | replace hR := cond_f hb57 hR | (try simp only [hb57, bb] at hR)
            iterate 7 refine RD.skip rfl rfl ?_
            refine RD.q (.bool false) ?_
            refine RD.m rfl ?_
            refine RD.done rfl ?_
            refine WK.ret ?_
            obtain rfl := Option.some.inj hR
            exact RetQ.fr [] (.inr rfl) rfl rfl rfl rfl
           ·rw [hb57]; first | replace hR := cond_t hb57 hR | (try simp only [hb57, bb] at hR)
            refine RD.q (.agg (TPrefix.c p0)) ?_
            refine RD.q (.agg (TPrefix.c q1)) ?_
            refine RD.callp (r := .bool c47) rfl rfl rfl (f14_ok p0 q1 _ hc47) rfl rfl ?_
            refine RD.q (.agg (TPrefix.c c61)) ?_
            refine RD.q (.agg (TPrefix.c p0)) ?_
            refine RD.q (.bool (decide (c61.A = p0.A) && (decide (c61.N = p0.N) && true))) ?_
            iterate 2 refine RD.q (.bool (c47 == (decide (c61.A = p0.A) && (decide (c61.N = p0.N) && true)))) ?_
            refine RD.m rfl ?_
            refine RD.done rfl ?_
            refine WK.ret ?_
            obtain rfl := Option.some.inj hR
            exact RetQ.fr [] (.inr rfl) rfl rfl rfl rfl
        ·rw [hb54]; first | replace hR := cond_t hb54 hR | (try simp only [hb54, bb] at hR)
         refine WK.condT rfl ?_
         refine WK.sr mixed ?_
         refine GX.m rfl ?_
         refine GX.done ?_
         refine WK.ret ?_
         obtain rfl := Option.some.inj hR
         exact RetQ.fr [] (.inr rfl) rfl rfl rfl rfl
    ·rw [hb32]; first | replace hR := cond_t hb32 hR | (try simp only [hb32, bb] at hR)
     refine GX.q (.agg (TPrefix.c p0)) ?_
     refine GX.q (.agg (TPrefix.c q1)) ?_
     generalize hc36 : F14_addr_Covers p0 q1 = c36 at hR
     try dsimp only at hR
     refine GX.callp (r := .bool c36) rfl rfl rfl (f14_ok p0 q1 _ hc36) rfl rfl ?_
     iterate 2 refine GX.q (.bool (!c36)) ?_
     refine GX.m rfl ?_
     rcases bool_two (c36) with hb58 | hb58
     ·rw [hb58]; first | replace hR := cond_f hb58 hR | (try simp only [hb58, bb] at hR)
      refine GX.q (.agg (TPrefix.c q1)) ?_
      refine GX.q (.agg (TPrefix.c p0)) ?_
      generalize hc42 : F14_addr_Covers q1 p0 = c42 at hR
      try dsimp only at hR
      refine GX.callp (r := .bool c42) rfl rfl rfl (f14_ok q1 p0 _ hc42) rfl rfl ?_
      iterate 2 refine GX.q (.bool (!c42)) ?_
      refine GX.done ?_
      rcases bool_two (c42) with hb59 | hb59
      ·rw [hb59]; first | replace hR := cond_f hb59 hR | (try simp only [hb59, bb] at hR)
       refine WK.condT rfl ?_
       refine WK.sr mixed ?_
       refine GX.m rfl ?_
       refine GX.done ?_
       refine WK.ret ?_
       obtain rfl := Option.some.inj hR
       exact RetQ.fr [] (.inr rfl) rfl rfl rfl rfl
      ·rw [hb59]; first | replace hR := cond_t hb59 hR | (try simp only [hb59, bb] at hR)
       refine WK.condF rfl ?_
       refine WK.skip ?_
       refine WK.seq ?_
       refine WK.sr mixed ?_
       refine GX.q (.agg (TPrefix.c p0)) ?_
       refine GX.q (.agg (TPrefix.c q1)) ?_
       refine GX.callp (r := .bool c36) rfl rfl rfl (f14_ok p0 q1 _ hc36) rfl rfl ?_
       refine GX.pure (v' := .bool false) rfl rfl rfl rfl (congrArg PVal.bool hb58) ?_
       iterate 3 refine GX.skip rfl rfl ?_
       refine GX.q (.bool false) ?_
       refine GX.m rfl ?_
       iterate 4 refine GX.skip rfl rfl ?_
       refine GX.q (.bool false) ?_
       refine GX.done ?_
       refine WK.condF rfl ?_
       refine WK.skip ?_
       refine WK.sr mixed ?_
       refine GX.q (.agg (TPrefix.c p0)) ?_
       refine GX.q (.agg (TPrefix.c q1)) ?_
       generalize hc61 : F19_addr_Common p0 q1 = c61 at hR
       try dsimp only at hR
       refine GX.callp (r := .agg [.int .u32 c61.A, .int .i64 c61.N]) rfl rfl rfl (f19_ok p0 q1 _ hc61) rfl rfl ?_
       refine GX.step (v' := .ptr 2 0) (heap' := [(0, .box (TPrefix.c p0)), (1, .box (TPrefix.c q1)), (2, .box [.int .u32 0, .int .i64 0])]) (next' := 3) rfl rfl rfl rfl rfl rfl rfl ?_
       refine GX.step0 (heap' := [(0, .box (TPrefix.c p0)), (1, .box (TPrefix.c q1)), (2, .box (TPrefix.c c61))]) (next' := 3) rfl rfl rfl rfl rfl ?_
       refine GX.done ?_
       refine WK.sr mixed ?_
       refine GX.q (.ptr 0 0) ?_
       refine GX.q (.int .u32 p0.A) ?_
       refine GX.q (.ptr 2 1) ?_
       refine GX.q (.int .i64 c61.N) ?_
       refine GX.q (.int .i64 (IntKind.i64.wrap (c61.N + 1))) ?_
       generalize hc68 : F23_addr_Of p0.A (IntKind.i64.wrap (c61.N + 1)) = c68 at hR
       obtain ⟨c68a, c68b⟩ := c68; try dsimp only at hR
       refine GX.callp (r := .tup [.agg [.int .u32 c68a.A, .int .i64 c68a.N], .int .i64 c68b]) rfl rfl rfl (f23_ok p0.A (IntKind.i64.wrap (c61.N + 1)) _ hc68) rfl rfl ?_
       refine GX.m rfl ?_
       refine GX.q (.agg [.int .u32 c68a.A, .int .i64 c68a.N]) ?_
       refine GX.q (.int .i64 c68b) ?_
       refine GX.step (v' := .ptr 3 0) (heap' := [(0, .box (TPrefix.c p0)), (1, .box (TPrefix.c q1)), (2, .box (TPrefix.c c61)), (3, .box [.int .u32 0, .int .i64 0])]) (next' := 4) rfl rfl rfl rfl rfl rfl rfl ?_
       refine GX.step0 (heap' := [(0, .box (TPrefix.c p0)), (1, .box (TPrefix.c q1)), (2, .box (TPrefix.c c61)), (3, .box (TPrefix.c c68a))]) (next' := 4) rfl rfl rfl rfl rfl ?_
       refine GX.m rfl ?_
       refine GX.done ?_
       refine WK.seq ?_
       refine WK.sr mixed ?_
       refine GX.m rfl ?_
       refine GX.q (.bool (decide (c68b = 0))) ?_
       refine GX.m rfl ?_
       rcases bool_two (decide (c68b = 0)) with hb60 | hb60
       ·rw [hb60]; first | replace hR := cond_f hb60 hR | (try simp only [hb60, bb] at hR)
        iterate 3 refine GX.skip rfl rfl ?_
        refine GX.q (.bool false) ?_
        refine GX.m rfl ?_
        iterate 3 refine GX.skip rfl rfl ?_
        refine GX.q (.bool false) ?_
        refine GX.done ?_
        refine WK.condF rfl ?_
        refine WK.skip ?_
        refine WK.seq ?_
        refine WK.drawn mixed ?_
        generalize hc83 : F9_crossroadslaw03_alive = c83 at hR
        rcases c83 with _ | c83
        ·try dsimp only at hR
         cases hR
        try dsimp only at hR
        try dsimp only at hR
        refine RD.callp (r := .bool c83) rfl rfl rfl (f9_ok  _ hc83) rfl rfl ?_
        refine RD.m rfl ?_
        rcases bool_two (c83) with hb61 | hb61
        ·rw [hb61]; first | replace hR := cond_f hb61 hR | (try simp only [hb61, bb] at hR)
         iterate 3 refine RD.skip rfl rfl ?_
         refine RD.q (.bool false) ?_
         refine RD.m rfl ?_
         iterate 3 refine RD.skip rfl rfl ?_
         refine RD.q (.bool false) ?_
         refine RD.m rfl ?_
         iterate 7 refine RD.skip rfl rfl ?_
         refine RD.q (.bool false) ?_
         refine RD.m rfl ?_
         refine RD.done rfl ?_
         refine WK.ret ?_
         obtain rfl := Option.some.inj hR
         exact RetQ.fr [] (.inr rfl) rfl rfl rfl rfl
        ·rw [hb61]; first | replace hR := cond_t hb61 hR | (try simp only [hb61, bb] at hR)
         refine RD.q (.agg (TPrefix.c c61)) ?_
         refine RD.q (.agg (TPrefix.c p0)) ?_
         generalize hc87 : F14_addr_Covers c61 p0 = c87 at hR
         try dsimp only at hR
         refine RD.callp (r := .bool c87) rfl rfl rfl (f14_ok c61 p0 _ hc87) rfl rfl ?_
         refine RD.q (.bool c87) ?_
         refine RD.m rfl ?_
         rcases bool_two (c87) with hb62 | hb62
         ·rw [hb62]; first | replace hR := cond_f hb62 hR | (try simp only [hb62, bb] at hR)
          iterate 3 refine RD.skip rfl rfl ?_
          refine RD.q (.bool false) ?_
          refine RD.m rfl ?_
          iterate 7 refine RD.skip rfl rfl ?_
          refine RD.q (.bool false) ?_
          refine RD.m rfl ?_
          refine RD.done rfl ?_
          refine WK.ret ?_
          obtain rfl := Option.some.inj hR
          exact RetQ.fr [] (.inr rfl) rfl rfl rfl rfl
         ·rw [hb62]; first | replace hR := cond_t hb62 hR | (try simp only [hb62, bb] at hR)
          refine RD.q (.agg (TPrefix.c c61)) ?_
          refine RD.q (.agg (TPrefix.c q1)) ?_
          generalize hc92 : F14_addr_Covers c61 q1 = c92 at hR
          try dsimp only at hR
          refine RD.callp (r := .bool c92) rfl rfl rfl (f14_ok c61 q1 _ hc92) rfl rfl ?_
          refine RD.q (.bool c92) ?_
          refine RD.m rfl ?_
          rcases bool_two (c92) with hb63 | hb63
          ·rw [hb63]; first | replace hR := cond_f hb63 hR | (try simp only [hb63, bb] at hR)
           iterate 7 refine RD.skip rfl rfl ?_
           refine RD.q (.bool false) ?_
           refine RD.m rfl ?_
           refine RD.done rfl ?_
           refine WK.ret ?_
           obtain rfl := Option.some.inj hR
           exact RetQ.fr [] (.inr rfl) rfl rfl rfl rfl
          ·rw [hb63]; first | replace hR := cond_t hb63 hR | (try simp only [hb63, bb] at hR)
           refine RD.q (.agg (TPrefix.c p0)) ?_
           refine RD.q (.agg (TPrefix.c q1)) ?_
           refine RD.callp (r := .bool c36) rfl rfl rfl (f14_ok p0 q1 _ hc36) rfl rfl ?_
           refine RD.q (.agg (TPrefix.c c61)) ?_
           refine RD.q (.agg (TPrefix.c p0)) ?_
           refine RD.q (.bool (decide (c61.A = p0.A) && (decide (c61.N = p0.N) && true))) ?_
           iterate 2 refine RD.q (.bool (c36 == (decide (c61.A = p0.A) && (decide (c61.N = p0.N) && true)))) ?_
           refine RD.m rfl ?_
           refine RD.done rfl ?_
           refine WK.ret ?_
           obtain rfl := Option.some.inj hR
           exact RetQ.fr [] (.inr rfl) rfl rfl rfl rfl
       ·rw [hb60]; first | replace hR := cond_t hb60 hR | (try simp only [hb60, bb] at hR)
        refine GX.q (.agg (TPrefix.c c68a)) ?_
        refine GX.q (.agg (TPrefix.c p0)) ?_
        generalize hc76 : F14_addr_Covers c68a p0 = c76 at hR
        try dsimp only at hR
        refine GX.callp (r := .bool c76) rfl rfl rfl (f14_ok c68a p0 _ hc76) rfl rfl ?_
        refine GX.q (.bool c76) ?_
        refine GX.m rfl ?_
        rcases bool_two (c76) with hb64 | hb64
        ·rw [hb64]; first | replace hR := cond_f hb64 hR | (try simp only [hb64, bb] at hR)
         iterate 3 refine GX.skip rfl rfl ?_
         refine GX.q (.bool false) ?_
         refine GX.done ?_
         refine WK.condF rfl ?_
         refine WK.skip ?_
         refine WK.seq ?_
         refine WK.drawn mixed ?_
         generalize hc83 : F9_crossroadslaw03_alive = c83 at hR
         rcases c83 with _ | c83
         ·try dsimp only at hR
          cases hR
         try dsimp only at hR
         try dsimp only at hR
         refine RD.callp (r := .bool c83) rfl rfl rfl (f9_ok  _ hc83) rfl rfl ?_
         refine RD.m rfl ?_
         rcases bool_two (c83) with hb65 | hb65
         ·rw [hb65]; first | replace hR := cond_f hb65 hR | (try simp only [hb65, bb] at hR)
          iterate 3 refine RD.skip rfl rfl ?_
          refine RD.q (.bool false) ?_
          refine RD.m rfl ?_
          iterate 3 refine RD.skip rfl rfl ?_
          refine RD.q (.bool false) ?_
          refine RD.m rfl ?_
          iterate 7 refine RD.skip rfl rfl ?_
          refine RD.q (.bool false) ?_
          refine RD.m rfl ?_
          refine RD.done rfl ?_
          refine WK.ret ?_
          obtain rfl := Option.some.inj hR
          exact RetQ.fr [] (.inr rfl) rfl rfl rfl rfl
         ·rw [hb65]; first | replace hR := cond_t hb65 hR | (try simp only [hb65, bb] at hR)
          refine RD.q (.agg (TPrefix.c c61)) ?_
          refine RD.q (.agg (TPrefix.c p0)) ?_
          generalize hc87 : F14_addr_Covers c61 p0 = c87 at hR
          try dsimp only at hR
          refine RD.callp (r := .bool c87) rfl rfl rfl (f14_ok c61 p0 _ hc87) rfl rfl ?_
          refine RD.q (.bool c87) ?_
          refine RD.m rfl ?_
          rcases bool_two (c87) with hb66 | hb66
          ·rw [hb66]; first | replace hR := cond_f hb66 hR | (try simp only [hb66, bb] at hR)
           iterate 3 refine RD.skip rfl rfl ?_
           refine RD.q (.bool false) ?_
           refine RD.m rfl ?_
           iterate 7 refine RD.skip rfl rfl ?_
           refine RD.q (.bool false) ?_
           refine RD.m rfl ?_
           refine RD.done rfl ?_
           refine WK.ret ?_
           obtain rfl := Option.some.inj hR
           exact RetQ.fr [] (.inr rfl) rfl rfl rfl rfl
          ·rw [hb66]; first | replace hR := cond_t hb66 hR | (try simp only [hb66, bb] at hR)
           refine RD.q (.agg (TPrefix.c c61)) ?_
           refine RD.q (.agg (TPrefix.c q1)) ?_
           generalize hc92 : F14_addr_Covers c61 q1 = c92 at hR
           try dsimp only at hR
           refine RD.callp (r := .bool c92) rfl rfl rfl (f14_ok c61 q1 _ hc92) rfl rfl ?_
           refine RD.q (.bool c92) ?_
           refine RD.m rfl ?_
           rcases bool_two (c92) with hb67 | hb67
           ·rw [hb67]; first | replace hR := cond_f hb67 hR | (try simp only [hb67, bb] at hR)
            iterate 7 refine RD.skip rfl rfl ?_
            refine RD.q (.bool false) ?_
            refine RD.m rfl ?_
            refine RD.done rfl ?_
            refine WK.ret ?_
            obtain rfl := Option.some.inj hR
            exact RetQ.fr [] (.inr rfl) rfl rfl rfl rfl
           ·rw [hb67]; first | replace hR := cond_t hb67 hR | (try simp only [hb67, bb] at hR)
            refine RD.q (.agg (TPrefix.c p0)) ?_
            refine RD.q (.agg (TPrefix.c q1)) ?_
            refine RD.callp (r := .bool c36) rfl rfl rfl (f14_ok p0 q1 _ hc36) rfl rfl ?_
            refine RD.q (.agg (TPrefix.c c61)) ?_
            refine RD.q (.agg (TPrefix.c p0)) ?_
            refine RD.q (.bool (decide (c61.A = p0.A) && (decide (c61.N = p0.N) && true))) ?_
            iterate 2 refine RD.q (.bool (c36 == (decide (c61.A = p0.A) && (decide (c61.N = p0.N) && true)))) ?_
            refine RD.m rfl ?_
            refine RD.done rfl ?_
            refine WK.ret ?_
            obtain rfl := Option.some.inj hR
            exact RetQ.fr [] (.inr rfl) rfl rfl rfl rfl
        ·rw [hb64]; first | replace hR := cond_t hb64 hR | (try simp only [hb64, bb] at hR)
         refine GX.q (.agg (TPrefix.c c68a)) ?_
         refine GX.q (.agg (TPrefix.c q1)) ?_
         generalize hc81 : F14_addr_Covers c68a q1 = c81 at hR
         try dsimp only at hR
         refine GX.callp (r := .bool c81) rfl rfl rfl (f14_ok c68a q1 _ hc81) rfl rfl ?_
         refine GX.q (.bool c81) ?_
         refine GX.done ?_
         rcases bool_two (c81) with hb68 | hb68
         ·rw [hb68]; first | replace hR := cond_f hb68 hR | (try simp only [hb68, bb] at hR)
          refine WK.condF rfl ?_
          refine WK.skip ?_
          refine WK.seq ?_
          refine WK.drawn mixed ?_
          generalize hc83 : F9_crossroadslaw03_alive = c83 at hR
          rcases c83 with _ | c83
          ·try dsimp only at hR
           cases hR
          try dsimp only at hR
          try dsimp only at hR
          refine RD.callp (r := .bool c83) rfl rfl rfl (f9_ok  _ hc83) rfl rfl ?_
          refine RD.m rfl ?_
          rcases bool_two (c83) with hb69 | hb69
          ·rw [hb69]; first | replace hR := cond_f hb69 hR | (try simp only [hb69, bb] at hR)
           iterate 3 refine RD.skip rfl rfl ?_
           refine RD.q (.bool false) ?_
           refine RD.m rfl ?_
           iterate 3 refine RD.skip rfl rfl ?_
           refine RD.q (.bool false) ?_
           refine RD.m rfl ?_
           iterate 7 refine RD.skip rfl rfl ?_
           refine RD.q (.bool false) ?_
           refine RD.m rfl ?_
           refine RD.done rfl ?_
           refine WK.ret ?_
           obtain rfl := Option.some.inj hR
           exact RetQ.fr [] (.inr rfl) rfl rfl rfl rfl
          ·rw [hb69]; first | replace hR := cond_t hb69 hR | (try simp only [hb69, bb] at hR)
           refine RD.q (.agg (TPrefix.c c61)) ?_
           refine RD.q (.agg (TPrefix.c p0)) ?_
           generalize hc87 : F14_addr_Covers c61 p0 = c87 at hR
           try dsimp only at hR
           refine RD.callp (r := .bool c87) rfl rfl rfl (f14_ok c61 p0 _ hc87) rfl rfl ?_
           refine RD.q (.bool c87) ?_
           refine RD.m rfl ?_
           rcases bool_two (c87) with hb70 | hb70
           ·rw [hb70]; first | replace hR := cond_f hb70 hR | (try simp only [hb70, bb] at hR)
            iterate 3 refine RD.skip rfl rfl ?_
            refine RD.q (.bool false) ?_
            refine RD.m rfl ?_
            iterate 7 refine RD.skip rfl rfl ?_
            refine RD.q (.bool false) ?_
            refine RD.m rfl ?_
            refine RD.done rfl ?_
            refine WK.ret ?_
            obtain rfl := Option.some.inj hR
            exact RetQ.fr [] (.inr rfl) rfl rfl rfl rfl
           ·rw [hb70]; first | replace hR := cond_t hb70 hR | (try simp only [hb70, bb] at hR)
            refine RD.q (.agg (TPrefix.c c61)) ?_
            refine RD.q (.agg (TPrefix.c q1)) ?_
            generalize hc92 : F14_addr_Covers c61 q1 = c92 at hR
            try dsimp only at hR
            refine RD.callp (r := .bool c92) rfl rfl rfl (f14_ok c61 q1 _ hc92) rfl rfl ?_
            refine RD.q (.bool c92) ?_
            refine RD.m rfl ?_
            rcases bool_two (c92) with hb71 | hb71
            ·rw [hb71]; first | replace hR := cond_f hb71 hR | (try simp only [hb71, bb] at hR)
             iterate 7 refine RD.skip rfl rfl ?_
             refine RD.q (.bool false) ?_
             refine RD.m rfl ?_
             refine RD.done rfl ?_
             refine WK.ret ?_
             obtain rfl := Option.some.inj hR
             exact RetQ.fr [] (.inr rfl) rfl rfl rfl rfl
            ·rw [hb71]; first | replace hR := cond_t hb71 hR | (try simp only [hb71, bb] at hR)
             refine RD.q (.agg (TPrefix.c p0)) ?_
             refine RD.q (.agg (TPrefix.c q1)) ?_
             refine RD.callp (r := .bool c36) rfl rfl rfl (f14_ok p0 q1 _ hc36) rfl rfl ?_
             refine RD.q (.agg (TPrefix.c c61)) ?_
             refine RD.q (.agg (TPrefix.c p0)) ?_
             refine RD.q (.bool (decide (c61.A = p0.A) && (decide (c61.N = p0.N) && true))) ?_
             iterate 2 refine RD.q (.bool (c36 == (decide (c61.A = p0.A) && (decide (c61.N = p0.N) && true)))) ?_
             refine RD.m rfl ?_
             refine RD.done rfl ?_
             refine WK.ret ?_
             obtain rfl := Option.some.inj hR
             exact RetQ.fr [] (.inr rfl) rfl rfl rfl rfl
         ·rw [hb68]; first | replace hR := cond_t hb68 hR | (try simp only [hb68, bb] at hR)
          refine WK.condT rfl ?_
          refine WK.sr mixed ?_
          refine GX.m rfl ?_
          refine GX.done ?_
          refine WK.ret ?_
          obtain rfl := Option.some.inj hR
          exact RetQ.fr [] (.inr rfl) rfl rfl rfl rfl
     ·rw [hb58]; first | replace hR := cond_t hb58 hR | (try simp only [hb58, bb] at hR)
      iterate 4 refine GX.skip rfl rfl ?_
      refine GX.q (.bool false) ?_
      refine GX.done ?_
      refine WK.condF rfl ?_
      refine WK.skip ?_
      refine WK.seq ?_
      refine WK.sr mixed ?_
      refine GX.q (.agg (TPrefix.c p0)) ?_
      refine GX.q (.agg (TPrefix.c q1)) ?_
      refine GX.callp (r := .bool c36) rfl rfl rfl (f14_ok p0 q1 _ hc36) rfl rfl ?_
      refine GX.pure (v' := .bool true) rfl rfl rfl rfl (congrArg PVal.bool hb58) ?_
      refine GX.q (.agg (TPrefix.c q1)) ?_
      refine GX.m rfl ?_
      refine GX.callp (r := .bool c31) rfl rfl rfl (f22_ok q1 a2 _ hc31) rfl rfl ?_
      refine GX.pure (v' := .bool true) rfl rfl rfl rfl (congrArg PVal.bool hb32) ?_
      refine GX.m rfl ?_
      refine GX.q (.agg (TPrefix.c p0)) ?_
      refine GX.m rfl ?_
      refine GX.callp (r := .bool c27) rfl rfl rfl (f22_ok p0 a2 _ hc27) rfl rfl ?_
      iterate 2 refine GX.q (.bool (!c27)) ?_
      refine GX.done ?_
      rw [hb5]
      refine WK.condF rfl ?_
      refine WK.skip ?_
      refine WK.sr mixed ?_
      refine GX.q (.agg (TPrefix.c p0)) ?_
      refine GX.q (.agg (TPrefix.c q1)) ?_
      generalize hc61 : F19_addr_Common p0 q1 = c61 at hR
      try dsimp only at hR
      refine GX.callp (r := .agg [.int .u32 c61.A, .int .i64 c61.N]) rfl rfl rfl (f19_ok p0 q1 _ hc61) rfl rfl ?_
      refine GX.step (v' := .ptr 2 0) (heap' := [(0, .box (TPrefix.c p0)), (1, .box (TPrefix.c q1)), (2, .box [.int .u32 0, .int .i64 0])]) (next' := 3) rfl rfl rfl rfl rfl rfl rfl ?_
      refine GX.step0 (heap' := [(0, .box (TPrefix.c p0)), (1, .box (TPrefix.c q1)), (2, .box (TPrefix.c c61))]) (next' := 3) rfl rfl rfl rfl rfl ?_
      refine GX.done ?_
      refine WK.sr mixed ?_
      refine GX.q (.ptr 0 0) ?_
      refine GX.q (.int .u32 p0.A) ?_
      refine GX.q (.ptr 2 1) ?_
      refine GX.q (.int .i64 c61.N) ?_
      refine GX.q (.int .i64 (IntKind.i64.wrap (c61.N + 1))) ?_
      generalize hc68 : F23_addr_Of p0.A (IntKind.i64.wrap (c61.N + 1)) = c68 at hR
      obtain ⟨c68a, c68b⟩ := c68; try dsimp only at hR
      refine GX.callp (r := .tup [.agg [.int .u32 c68a.A, .int .i64 c68a.N], .int .i64 c68b]) rfl rfl rfl (f23_ok p0.A (IntKind.i64.wrap (c61.N + 1)) _ hc68) rfl rfl ?_
      refine GX.m rfl ?_
      refine GX.q (.agg [.int .u32 c68a.A, .int .i64 c68a.N]) ?_
      refine GX.q (.int .i64 c68b) ?_
      refine GX.step (v' := .ptr 3 0) (heap' := [(0, .box (TPrefix.c p0)), (1, .box (TPrefix.c q1)), (2, .box (TPrefix.c c61)), (3, .box [.int .u32 0, .int .i64 0])]) (next' := 4) rfl rfl rfl rfl rfl rfl rfl ?_
      refine GX.step0 (heap' := [(0, .box (TPrefix.c p0)), (1, .box (TPrefix.c q1)), (2, .box (TPrefix.c c61)), (3, .box (TPrefix.c c68a))]) (next' := 4) rfl rfl rfl rfl rfl ?_
      refine GX.m rfl ?_
      refine GX.done ?_
      refine WK.seq ?_
      refine WK.sr mixed ?_
      refine GX.m rfl ?_
      refine GX.q (.bool (decide (c68b = 0))) ?_
      refine GX.m rfl ?_
      rcases bool_two (decide (c68b = 0)) with hb72 | hb72
      ·rw [hb72]; first | replace hR := cond_f hb72 hR | (try simp only [hb72, bb] at hR)
       iterate 3 refine GX.skip rfl rfl ?_
       refine GX.q (.bool false) ?_
       refine GX.m rfl ?_
       iterate 3 refine GX.skip rfl rfl ?_
       refine GX.q (.bool false) ?_
       refine GX.done ?_
       refine WK.condF rfl ?_
       refine WK.skip ?_
       refine WK.seq ?_
       refine WK.drawn mixed ?_
       generalize hc83 : F9_crossroadslaw03_alive = c83 at hR
       rcases c83 with _ | c83
       ·try dsimp only at hR
        cases hR
       try dsimp only at hR
       try dsimp only at hR
       refine RD.callp (r := .bool c83) rfl rfl rfl (f9_ok  _ hc83) rfl rfl ?_
       refine RD.m rfl ?_
       rcases bool_two (c83) with hb73 | hb73
       ·rw [hb73]; first | replace hR := cond_f hb73 hR | (try simp only [hb73, bb] at hR)
        iterate 3 refine RD.skip rfl rfl ?_
        refine RD.q (.bool false) ?_
        refine RD.m rfl ?_
        iterate 3 refine RD.skip rfl rfl ?_
        refine RD.q (.bool false) ?_
        refine RD.m rfl ?_
        iterate 7 refine RD.skip rfl rfl ?_
        refine RD.q (.bool false) ?_
        refine RD.m rfl ?_
        refine RD.done rfl ?_
        refine WK.ret ?_
        obtain rfl := Option.some.inj hR
        exact RetQ.fr [] (.inr rfl) rfl rfl rfl rfl
       ·rw [hb73]; first | replace hR := cond_t hb73 hR | (try simp only [hb73, bb] at hR)
        refine RD.q (.agg (TPrefix.c c61)) ?_
        refine RD.q (.agg (TPrefix.c p0)) ?_
        generalize hc87 : F14_addr_Covers c61 p0 = c87 at hR
        try dsimp only at hR
        refine RD.callp (r := .bool c87) rfl rfl rfl (f14_ok c61 p0 _ hc87) rfl rfl ?_
        refine RD.q (.bool c87) ?_
        refine RD.m rfl ?_
        rcases bool_two (c87) with hb74 | hb74
        ·rw [hb74]; first | replace hR := cond_f hb74 hR | (try simp only [hb74, bb] at hR)
         iterate 3 refine RD.skip rfl rfl ?_
         refine RD.q (.bool false) ?_
         refine RD.m rfl ?_
         iterate 7 refine RD.skip rfl rfl ?_
         refine RD.q (.bool false) ?_
         refine RD.m rfl ?_
         refine RD.done rfl ?_
         refine WK.ret ?_
         obtain rfl := Option.some.inj hR
         exact RetQ.fr [] (.inr rfl) rfl rfl rfl rfl
        ·rw [hb74]; first | replace hR := cond_t hb74 hR | (try simp only [hb74, bb] at hR)
         refine RD.q (.agg (TPrefix.c c61)) ?_
         refine RD.q (.agg (TPrefix.c q1)) ?_
         generalize hc92 : F14_addr_Covers c61 q1 = c92 at hR
         try dsimp only at hR
         refine RD.callp (r := .bool c92) rfl rfl rfl (f14_ok c61 q1 _ hc92) rfl rfl ?_
         refine RD.q (.bool c92) ?_
         refine RD.m rfl ?_
         rcases bool_two (c92) with hb75 | hb75
         ·rw [hb75]; first | replace hR := cond_f hb75 hR | (try simp only [hb75, bb] at hR)
          iterate 7 refine RD.skip rfl rfl ?_
          refine RD.q (.bool false) ?_
          refine RD.m rfl ?_
          refine RD.done rfl ?_
          refine WK.ret ?_
          obtain rfl := Option.some.inj hR
          exact RetQ.fr [] (.inr rfl) rfl rfl rfl rfl
         ·rw [hb75]; first | replace hR := cond_t hb75 hR | (try simp only [hb75, bb] at hR)
          refine RD.q (.agg (TPrefix.c p0)) ?_
          refine RD.q (.agg (TPrefix.c q1)) ?_
          refine RD.callp (r := .bool c36) rfl rfl rfl (f14_ok p0 q1 _ hc36) rfl rfl ?_
          refine RD.q (.agg (TPrefix.c c61)) ?_
          refine RD.q (.agg (TPrefix.c p0)) ?_
          refine RD.q (.bool (decide (c61.A = p0.A) && (decide (c61.N = p0.N) && true))) ?_
          iterate 2 refine RD.q (.bool (c36 == (decide (c61.A = p0.A) && (decide (c61.N = p0.N) && true)))) ?_
          refine RD.m rfl ?_
          refine RD.done rfl ?_
          refine WK.ret ?_
          obtain rfl := Option.some.inj hR
          exact RetQ.fr [] (.inr rfl) rfl rfl rfl rfl
      ·rw [hb72]; first | replace hR := cond_t hb72 hR | (try simp only [hb72, bb] at hR)
       refine GX.q (.agg (TPrefix.c c68a)) ?_
       refine GX.q (.agg (TPrefix.c p0)) ?_
       generalize hc76 : F14_addr_Covers c68a p0 = c76 at hR
       try dsimp only at hR
       refine GX.callp (r := .bool c76) rfl rfl rfl (f14_ok c68a p0 _ hc76) rfl rfl ?_
       refine GX.q (.bool c76) ?_
       refine GX.m rfl ?_
       rcases bool_two (c76) with hb76 | hb76
       ·rw [hb76]; first | replace hR := cond_f hb76 hR | (try simp only [hb76, bb] at hR)
        iterate 3 refine GX.skip rfl rfl ?_
        refine GX.q (.bool false) ?_
        refine GX.done ?_
        refine WK.condF rfl ?_
        refine WK.skip ?_
        refine WK.seq ?_
        refine WK.drawn mixed ?_
        generalize hc83 : F9_crossroadslaw03_alive = c83 at hR
        rcases c83 with _ | c83
        ·try dsimp only at hR
         cases hR
        try dsimp only at hR
        try dsimp only at hR
        refine RD.callp (r := .bool c83) rfl rfl rfl (f9_ok  _ hc83) rfl rfl ?_
        refine RD.m rfl ?_
        rcases bool_two (c83) with hb77 | hb77
        ·rw [hb77]; first | replace hR := cond_f hb77 hR | (try simp only [hb77, bb] at hR)
         iterate 3 refine RD.skip rfl rfl ?_
         refine RD.q (.bool false) ?_
         refine RD.m rfl ?_
         iterate 3 refine RD.skip rfl rfl ?_
         refine RD.q (.bool false) ?_
         refine RD.m rfl ?_
         iterate 7 refine RD.skip rfl rfl ?_
         refine RD.q (.bool false) ?_
         refine RD.m rfl ?_
         refine RD.done rfl ?_
         refine WK.ret ?_
         obtain rfl := Option.some.inj hR
         exact RetQ.fr [] (.inr rfl) rfl rfl rfl rfl
        ·rw [hb77]; first | replace hR := cond_t hb77 hR | (try simp only [hb77, bb] at hR)
         refine RD.q (.agg (TPrefix.c c61)) ?_
         refine RD.q (.agg (TPrefix.c p0)) ?_
         generalize hc87 : F14_addr_Covers c61 p0 = c87 at hR
         try dsimp only at hR
         refine RD.callp (r := .bool c87) rfl rfl rfl (f14_ok c61 p0 _ hc87) rfl rfl ?_
         refine RD.q (.bool c87) ?_
         refine RD.m rfl ?_
         rcases bool_two (c87) with hb78 | hb78
         ·rw [hb78]; first | replace hR := cond_f hb78 hR | (try simp only [hb78, bb] at hR)
          iterate 3 refine RD.skip rfl rfl ?_
          refine RD.q (.bool false) ?_
          refine RD.m rfl ?_
          iterate 7 refine RD.skip rfl rfl ?_
          refine RD.q (.bool false) ?_
          refine RD.m rfl ?_
          refine RD.done rfl ?_
          refine WK.ret ?_
          obtain rfl := Option.some.inj hR
          exact RetQ.fr [] (.inr rfl) rfl rfl rfl rfl
         ·rw [hb78]; first | replace hR := cond_t hb78 hR | (try simp only [hb78, bb] at hR)
          refine RD.q (.agg (TPrefix.c c61)) ?_
          refine RD.q (.agg (TPrefix.c q1)) ?_
          generalize hc92 : F14_addr_Covers c61 q1 = c92 at hR
          try dsimp only at hR
          refine RD.callp (r := .bool c92) rfl rfl rfl (f14_ok c61 q1 _ hc92) rfl rfl ?_
          refine RD.q (.bool c92) ?_
          refine RD.m rfl ?_
          rcases bool_two (c92) with hb79 | hb79
          ·rw [hb79]; first | replace hR := cond_f hb79 hR | (try simp only [hb79, bb] at hR)
           iterate 7 refine RD.skip rfl rfl ?_
           refine RD.q (.bool false) ?_
           refine RD.m rfl ?_
           refine RD.done rfl ?_
           refine WK.ret ?_
           obtain rfl := Option.some.inj hR
           exact RetQ.fr [] (.inr rfl) rfl rfl rfl rfl
          ·rw [hb79]; first | replace hR := cond_t hb79 hR | (try simp only [hb79, bb] at hR)
           refine RD.q (.agg (TPrefix.c p0)) ?_
           refine RD.q (.agg (TPrefix.c q1)) ?_
           refine RD.callp (r := .bool c36) rfl rfl rfl (f14_ok p0 q1 _ hc36) rfl rfl ?_
           refine RD.q (.agg (TPrefix.c c61)) ?_
           refine RD.q (.agg (TPrefix.c p0)) ?_
           refine RD.q (.bool (decide (c61.A = p0.A) && (decide (c61.N = p0.N) && true))) ?_
           iterate 2 refine RD.q (.bool (c36 == (decide (c61.A = p0.A) && (decide (c61.N = p0.N) && true)))) ?_
           refine RD.m rfl ?_
           refine RD.done rfl ?_
           refine WK.ret ?_
           obtain rfl := Option.some.inj hR
           exact RetQ.fr [] (.inr rfl) rfl rfl rfl rfl
       ·rw [hb76]; first | replace hR := cond_t hb76 hR | (try simp only [hb76, bb] at hR)
        refine GX.q (.agg (TPrefix.c c68a)) ?_
        refine GX.q (.agg (TPrefix.c q1)) ?_
        generalize hc81 : F14_addr_Covers c68a q1 = c81 at hR
        try dsimp only at hR
        refine GX.callp (r := .bool c81) rfl rfl rfl (f14_ok c68a q1 _ hc81) rfl rfl ?_
        refine GX.q (.bool c81) ?_
        refine GX.done ?_
        rcases bool_two (c81) with hb80 | hb80
        ·rw [hb80]; first | replace hR := cond_f hb80 hR | (try simp only [hb80, bb] at hR)
         refine WK.condF rfl ?_
         refine WK.skip ?_
         refine WK.seq ?_
         refine WK.drawn mixed ?_
         generalize hc83 : F9_crossroadslaw03_alive = c83 at hR
         rcases c83 with _ | c83
         ·try dsimp only at hR
          cases hR
         try dsimp only at hR
         try dsimp only at hR
         refine RD.callp (r := .bool c83) rfl rfl rfl (f9_ok  _ hc83) rfl rfl ?_
         refine RD.m rfl ?_
         rcases bool_two (c83) with hb81 | hb81
         ·rw [hb81]; first | replace hR := cond_f hb81 hR | (try simp only [hb81, bb] at hR)
          iterate 3 refine RD.skip rfl rfl ?_
          refine RD.q (.bool false) ?_
          refine RD.m rfl ?_
          iterate 3 refine RD.skip rfl rfl ?_
          refine RD.q (.bool false) ?_
          refine RD.m rfl ?_
          iterate 7 refine RD.skip rfl rfl ?_
          refine RD.q (.bool false) ?_
          refine RD.m rfl ?_
          refine RD.done rfl ?_
          refine WK.ret ?_
          obtain rfl := Option.some.inj hR
          exact RetQ.fr [] (.inr rfl) rfl rfl rfl rfl
         ·rw [hb81]; first | replace hR := cond_t hb81 hR | (try simp only [hb81, bb] at hR)
          refine RD.q (.agg (TPrefix.c c61)) ?_
          refine RD.q (.agg (TPrefix.c p0)) ?_
          generalize hc87 : F14_addr_Covers c61 p0 = c87 at hR
          try dsimp only at hR
          refine RD.callp (r := .bool c87) rfl rfl rfl (f14_ok c61 p0 _ hc87) rfl rfl ?_
          refine RD.q (.bool c87) ?_
          refine RD.m rfl ?_
          rcases bool_two (c87) with hb82 | hb82
          ·rw [hb82]; first | replace hR := cond_f hb82 hR | (try simp only [hb82, bb] at hR)
           iterate 3 refine RD.skip rfl rfl ?_
           refine RD.q (.bool false) ?_
           refine RD.m rfl ?_
           iterate 7 refine RD.skip rfl rfl ?_
           refine RD.q (.bool false) ?_
           refine RD.m rfl ?_
           refine RD.done rfl ?_
           refine WK.ret ?_
           obtain rfl := Option.some.inj hR
           exact RetQ.fr [] (.inr rfl) rfl rfl rfl rfl
          ·rw [hb82]; first | replace hR := cond_t hb82 hR | (try simp only [hb82, bb] at hR)
           refine RD.q (.agg (TPrefix.c c61)) ?_
           refine RD.q (.agg (TPrefix.c q1)) ?_
           generalize hc92 : F14_addr_Covers c61 q1 = c92 at hR
           try dsimp only at hR
           refine RD.callp (r := .bool c92) rfl rfl rfl (f14_ok c61 q1 _ hc92) rfl rfl ?_
           refine RD.q (.bool c92) ?_
           refine RD.m rfl ?_
           rcases bool_two (c92) with hb83 | hb83
           ·rw [hb83]; first | replace hR := cond_f hb83 hR | (try simp only [hb83, bb] at hR)
            iterate 7 refine RD.skip rfl rfl ?_
            refine RD.q (.bool false) ?_
            refine RD.m rfl ?_
            refine RD.done rfl ?_
            refine WK.ret ?_
            obtain rfl := Option.some.inj hR
            exact RetQ.fr [] (.inr rfl) rfl rfl rfl rfl
           ·rw [hb83]; first | replace hR := cond_t hb83 hR | (try simp only [hb83, bb] at hR)
            refine RD.q (.agg (TPrefix.c p0)) ?_
            refine RD.q (.agg (TPrefix.c q1)) ?_
            refine RD.callp (r := .bool c36) rfl rfl rfl (f14_ok p0 q1 _ hc36) rfl rfl ?_
            refine RD.q (.agg (TPrefix.c c61)) ?_
            refine RD.q (.agg (TPrefix.c p0)) ?_
            refine RD.q (.bool (decide (c61.A = p0.A) && (decide (c61.N = p0.N) && true))) ?_
            iterate 2 refine RD.q (.bool (c36 == (decide (c61.A = p0.A) && (decide (c61.N = p0.N) && true)))) ?_
            refine RD.m rfl ?_
            refine RD.done rfl ?_
            refine WK.ret ?_
            obtain rfl := Option.some.inj hR
            exact RetQ.fr [] (.inr rfl) rfl rfl rfl rfl
        ·rw [hb80]; first | replace hR := cond_t hb80 hR | (try simp only [hb80, bb] at hR)
         refine WK.condT rfl ?_
         refine WK.sr mixed ?_
         refine GX.m rfl ?_
         refine GX.done ?_
         refine WK.ret ?_
         obtain rfl := Option.some.inj hR
         exact RetQ.fr [] (.inr rfl) rfl rfl rfl rfl

end Go.Proofs.YtkdhongicibhbaaDoor.Abs
