/- The functions walked: each computes its Lean function (printed by this work's own program gen.py). -/
import Derived.Test.YtkdhongicibhbaaDoorSb
set_option linter.unusedVariables false
set_option linter.unusedSimpArgs false
set_option maxRecDepth 10000
set_option maxHeartbeats 4000000
namespace Go.Proofs.YtkdhongicibhbaaDoor.Abs
open Go

theorem f16_ok (n0 : Int) (R : Int) (hR : F16_addr_Mask n0 = R) : FnOk Tryd.prog 16 [.int .i64 n0] [] 0 (.int .u32 R) [] 0 := by
 refine FnOk.wk i16 rfl rfl ?_
 unfold F16_addr_Mask at hR
 change WK _ _ _ [ac16] _ ⟨[(0, .int .i64 n0)], [], 0⟩
 unfold ac16
 refine WK.sr mixed ?_
 refine GX.m rfl ?_
 refine GX.done ?_
 refine WK.sr mixed ?_
 refine GX.m rfl ?_
 refine GX.q (.int .i64 (max_ n0 0)) ?_
 refine GX.q (.int .i64 (min_ (max_ n0 0) 32)) ?_
 refine GX.m rfl ?_
 refine GX.done ?_
 refine WK.sr mixed ?_
 refine GX.m rfl ?_
 refine GX.q (.int .i64 (IntKind.i64.wrap (32 - (min_ (max_ n0 0) 32)))) ?_
 refine GX.shl rfl rfl rfl (by ((try simp only [decide_eq_true_eq, decide_eq_false_iff_not, Bool.not_eq_true, Bool.not_eq_false] at *); first | omega | (rw [wrap64_of (by omega) (by omega)]; omega) | (unfold min_ max_; (repeat' split) <;> first | omega | (rw [wrap64_of (by omega) (by omega)]; omega)))) ?_
 refine GX.q (.int .u32 (IntKind.u32.wrap (shl_ .u64 4294967295 (IntKind.i64.wrap (32 - (min_ (max_ n0 0) 32)))))) ?_
 refine GX.m rfl ?_
 refine GX.done ?_
 refine WK.ret ?_
 subst hR
 exact RetQ.fr [] (.inr rfl) rfl rfl rfl rfl

theorem f39_ok (n0 : Int) (R : Bool) (hR : F39_addr_isLong n0 = R) : FnOk Tryd.prog 39 [.int .i64 n0] [] 0 (.bool R) [] 0 := by
 refine FnOk.wk i39 rfl rfl ?_
 unfold F39_addr_isLong at hR
 change WK _ _ _ [ac39] _ ⟨[(0, .int .i64 n0)], [], 0⟩
 unfold ac39
 refine WK.sr mixed ?_
 refine GX.m rfl ?_
 refine GX.done ?_
 refine WK.sr mixed ?_
 refine GX.m rfl ?_
 refine GX.q (.bool (decide (0 ≤ n0))) ?_
 refine GX.m rfl ?_
 rcases bool_two (decide (0 ≤ n0)) with hb1 | hb1
 ·rw [hb1]; try simp only [hb1, bb] at hR
  iterate 2 refine GX.skip rfl rfl ?_
  refine GX.q (.bool false) ?_
  refine GX.m rfl ?_
  refine GX.done ?_
  refine WK.ret ?_
  subst hR
  exact RetQ.fr [] (.inr rfl) rfl rfl rfl rfl
 ·rw [hb1]; try simp only [hb1, bb] at hR
  refine GX.m rfl ?_
  iterate 2 refine GX.q (.bool (decide (n0 ≤ 32))) ?_
  refine GX.m rfl ?_
  refine GX.done ?_
  refine WK.ret ?_
  subst hR
  exact RetQ.fr [] (.inr rfl) rfl rfl rfl rfl

theorem f17_ok (p0 : TPrefix) (R : Bool) (hR : F17_addr_May p0 = R) : FnOk Tryd.prog 17 [.agg (TPrefix.c p0)] [] 0 (.bool R) [] 0 := by
 refine FnOk.wk i17 rfl rfl ?_
 unfold F17_addr_May at hR
 change WK _ _ _ [ac17] _ ⟨[(0, .agg (TPrefix.c p0))], [], 0⟩
 unfold ac17
 refine WK.sr mixed ?_
 refine GX.step (v' := .ptr 0 0) (heap' := [(0, .box (TPrefix.c p0))]) (next' := 1) rfl rfl rfl rfl rfl rfl rfl ?_
 refine GX.m rfl ?_
 refine GX.done ?_
 refine WK.seq ?_
 refine WK.drawn mixed ?_
 refine RD.q (.ptr 0 1) ?_
 refine RD.q (.int .i64 p0.N) ?_
 generalize hc5 : F39_addr_isLong p0.N = c5 at hR
 try dsimp only at hR
 refine RD.callp (r := .bool c5) rfl rfl rfl (f39_ok p0.N _ hc5) rfl rfl ?_
 refine RD.m rfl ?_
 rcases bool_two (c5) with hb1 | hb1
 ·rw [hb1]; try simp only [hb1, bb] at hR
  iterate 7 refine RD.skip rfl rfl ?_
  refine RD.q (.bool false) ?_
  refine RD.m rfl ?_
  refine RD.done rfl ?_
  refine WK.ret ?_
  subst hR
  exact RetQ.fr [] (.inr rfl) rfl rfl rfl rfl
 ·rw [hb1]; try simp only [hb1, bb] at hR
  refine RD.q (.ptr 0 0) ?_
  refine RD.q (.int .u32 p0.A) ?_
  refine RD.q (.ptr 0 1) ?_
  refine RD.q (.int .i64 p0.N) ?_
  generalize hc11 : F16_addr_Mask p0.N = c11 at hR
  try dsimp only at hR
  refine RD.callp (r := .int .u32 c11) rfl rfl rfl (f16_ok p0.N _ hc11) rfl rfl ?_
  refine RD.q (.int .u32 (bit_andNot .u32 p0.A c11)) ?_
  iterate 2 refine RD.q (.bool (decide (bit_andNot .u32 p0.A c11 = 0))) ?_
  refine RD.m rfl ?_
  refine RD.done rfl ?_
  refine WK.ret ?_
  subst hR
  exact RetQ.fr [] (.inr rfl) rfl rfl rfl rfl

theorem f43_ok (c0 : Int) (R : Bool) (hR : F43_addr_number_1 c0 = R) : FnOk Tryd.prog 43 [.int .i32 c0] [] 0 (.bool R) [] 0 := by
 refine FnOk.wk i43 rfl rfl ?_
 unfold F43_addr_number_1 at hR
 change WK _ _ _ [ac43] _ ⟨[(0, .int .i32 c0)], [], 0⟩
 unfold ac43
 refine WK.sr mixed ?_
 refine GX.m rfl ?_
 refine GX.done ?_
 refine WK.sr mixed ?_
 refine GX.m rfl ?_
 refine GX.q (.bool (decide (c0 < 48))) ?_
 refine GX.m rfl ?_
 rcases bool_two (decide (c0 < 48)) with hb1 | hb1
 ·rw [hb1]; try simp only [hb1, bb] at hR
  refine GX.m rfl ?_
  iterate 2 refine GX.q (.bool (decide (57 < c0))) ?_
  refine GX.m rfl ?_
  refine GX.done ?_
  refine WK.ret ?_
  subst hR
  exact RetQ.fr [] (.inr rfl) rfl rfl rfl rfl
 ·rw [hb1]; try simp only [hb1, bb] at hR
  iterate 2 refine GX.skip rfl rfl ?_
  refine GX.q (.bool true) ?_
  refine GX.m rfl ?_
  refine GX.done ?_
  refine WK.ret ?_
  subst hR
  exact RetQ.fr [] (.inr rfl) rfl rfl rfl rfl

theorem f34_ok (s0 : ByteArray) (most1 : Int) (R : Int × Bool) (hR : F34_addr_number s0 most1 = some R) : FnOk Tryd.prog 34 [.str s0, .int .i64 most1] [] 0 (.tup [.int .i64 R.1, .bool R.2]) [] 0 := by
 refine FnOk.wk i34 rfl rfl ?_
 unfold F34_addr_number at hR
 try dsimp only at hR
 change WK _ _ _ [ac34] _ ⟨[(0, .str s0), (1, .int .i64 most1)], [], 0⟩
 unfold ac34
 refine WK.sr mixed ?_
 iterate 2 refine GX.m rfl ?_
 refine GX.done ?_
 refine WK.sr mixed ?_
 refine GX.m rfl ?_
 refine GX.done ?_
 refine WK.seq ?_
 refine WK.sr mixed ?_
 refine GX.m rfl ?_
 refine GX.q (.bool (s0.toList == (bstr []).toList)) ?_
 refine GX.m rfl ?_
 rcases bool_two ((s0.toList == (bstr []).toList)) with hb1 | hb1
 ·rw [hb1]; try simp only [hb1, bb] at hR
  refine GX.m rfl ?_
  refine GX.q (.int .i64 (s0.size : Int)) ?_
  iterate 2 refine GX.q (.bool (decide (3 < (s0.size : Int)))) ?_
  refine GX.m rfl ?_
  rcases bool_two (decide (3 < (s0.size : Int))) with hb2 | hb2
  ·rw [hb2]; first | replace hR := cond_f hb2 hR | (try simp only [hb2, bb] at hR)
   refine GX.m rfl ?_
   refine GX.q (.int .i64 (s0.size : Int)) ?_
   refine GX.q (.bool (decide (1 < (s0.size : Int)))) ?_
   refine GX.m rfl ?_
   rcases bool_two (decide (1 < (s0.size : Int))) with hb3 | hb3
   ·rw [hb3]; first | replace hR := cond_f hb3 hR | (try simp only [hb3, bb] at hR)
    iterate 3 refine GX.skip rfl rfl ?_
    iterate 2 refine GX.q (.bool false) ?_
    iterate 3 refine GX.m rfl ?_
    generalize hc29 : containsFuncS s0 (fun y0 => F43_addr_number_1 y0) = c29 at hR
    try dsimp only at hR
    refine GX.callp (r := .bool c29) rfl rfl rfl (f44_ok s0 43 [] [] (fun y0 => F43_addr_number_1 y0) ⟨rfl, rfl⟩ (fun y0 _ hr => f43_ok y0 _ hr) _ hc29) rfl rfl ?_
    refine GX.q (.bool c29) ?_
    refine GX.done ?_
    rcases bool_two (c29) with hb4 | hb4
    ·rw [hb4]; first | replace hR := cond_f hb4 hR | (try simp only [hb4, bb] at hR)
     refine WK.condF rfl ?_
     refine WK.skip ?_
     refine WK.sr mixed ?_
     refine GX.m rfl ?_
     generalize hc33 : atoiO s0 = c33 at hR
     rcases c33 with _ | c33
     ·try dsimp only at hR
      cases hR
     try dsimp only at hR
     obtain ⟨c33a, c33b⟩ := c33; try dsimp only at hR
     refine GX.callp (r := .tup [.int .i64 c33a, .nili]) rfl rfl rfl (f45_ok s0 _ hc33) rfl rfl ?_
     refine GX.m rfl ?_
     refine GX.q (.int .i64 c33a) ?_
     refine GX.q (.nili) ?_
     iterate 2 refine GX.m rfl ?_
     refine GX.done ?_
     refine WK.sr mixed ?_
     iterate 3 refine GX.m rfl ?_
     refine GX.q (.bool (decide (c33a ≤ most1))) ?_
     iterate 2 refine GX.m rfl ?_
     refine GX.done ?_
     refine WK.ret ?_
     obtain rfl := Option.some.inj hR
     exact RetQ.fr [] (.inr rfl) rfl rfl rfl rfl
    ·rw [hb4]; first | replace hR := cond_t hb4 hR | (try simp only [hb4, bb] at hR)
     refine WK.condT rfl ?_
     refine WK.sr mixed ?_
     iterate 2 refine GX.m rfl ?_
     refine GX.done ?_
     refine WK.ret ?_
     obtain rfl := Option.some.inj hR
     exact RetQ.fr [] (.inr rfl) rfl rfl rfl rfl
   ·rw [hb3]; first | replace hR := cond_t hb3 hR | (try simp only [hb3, bb] at hR)
    refine GX.m rfl ?_
    rcases bool_two (decide ((0 : Int) < (s0.size : Int))) with hg5 | hg5
    ·simp only [hg5, bb] at hR
     try dsimp only at hR
     cases hR
    simp only [hg5, bb] at hR
    have hg5_ := of_decide_eq_true hg5
    refine GX.pure (v' := .int .u8 (strAt s0 0)) rfl rfl rfl (core_idxSG (by omega) (by omega)) rfl ?_
    iterate 3 refine GX.q (.bool (decide ((strAt s0 0) = 48))) ?_
    refine GX.m rfl ?_
    rcases bool_two (decide ((strAt s0 0) = 48)) with hb6 | hb6
    ·rw [hb6]; first | replace hR := cond_f hb6 hR | (try simp only [hb6, bb] at hR)
     iterate 2 refine GX.m rfl ?_
     generalize hc29 : containsFuncS s0 (fun y0 => F43_addr_number_1 y0) = c29 at hR
     try dsimp only at hR
     refine GX.callp (r := .bool c29) rfl rfl rfl (f44_ok s0 43 [] [] (fun y0 => F43_addr_number_1 y0) ⟨rfl, rfl⟩ (fun y0 _ hr => f43_ok y0 _ hr) _ hc29) rfl rfl ?_
     refine GX.q (.bool c29) ?_
     refine GX.done ?_
     rcases bool_two (c29) with hb7 | hb7
     ·rw [hb7]; first | replace hR := cond_f hb7 hR | (try simp only [hb7, bb] at hR)
      refine WK.condF rfl ?_
      refine WK.skip ?_
      refine WK.sr mixed ?_
      refine GX.m rfl ?_
      generalize hc33 : atoiO s0 = c33 at hR
      rcases c33 with _ | c33
      ·try dsimp only at hR
       cases hR
      try dsimp only at hR
      obtain ⟨c33a, c33b⟩ := c33; try dsimp only at hR
      refine GX.callp (r := .tup [.int .i64 c33a, .nili]) rfl rfl rfl (f45_ok s0 _ hc33) rfl rfl ?_
      refine GX.m rfl ?_
      refine GX.q (.int .i64 c33a) ?_
      refine GX.q (.nili) ?_
      iterate 2 refine GX.m rfl ?_
      refine GX.done ?_
      refine WK.sr mixed ?_
      iterate 3 refine GX.m rfl ?_
      refine GX.q (.bool (decide (c33a ≤ most1))) ?_
      iterate 2 refine GX.m rfl ?_
      refine GX.done ?_
      refine WK.ret ?_
      obtain rfl := Option.some.inj hR
      exact RetQ.fr [] (.inr rfl) rfl rfl rfl rfl
     ·rw [hb7]; first | replace hR := cond_t hb7 hR | (try simp only [hb7, bb] at hR)
      refine WK.condT rfl ?_
      refine WK.sr mixed ?_
      iterate 2 refine GX.m rfl ?_
      refine GX.done ?_
      refine WK.ret ?_
      obtain rfl := Option.some.inj hR
      exact RetQ.fr [] (.inr rfl) rfl rfl rfl rfl
    ·rw [hb6]; first | replace hR := cond_t hb6 hR | (try simp only [hb6, bb] at hR)
     iterate 3 refine GX.skip rfl rfl ?_
     refine GX.q (.bool true) ?_
     refine GX.done ?_
     refine WK.condT rfl ?_
     refine WK.sr mixed ?_
     iterate 2 refine GX.m rfl ?_
     refine GX.done ?_
     refine WK.ret ?_
     obtain rfl := Option.some.inj hR
     exact RetQ.fr [] (.inr rfl) rfl rfl rfl rfl
  ·rw [hb2]; first | replace hR := cond_t hb2 hR | (try simp only [hb2, bb] at hR)
   iterate 8 refine GX.skip rfl rfl ?_
   refine GX.q (.bool true) ?_
   refine GX.m rfl ?_
   iterate 3 refine GX.skip rfl rfl ?_
   refine GX.q (.bool true) ?_
   refine GX.done ?_
   refine WK.condT rfl ?_
   refine WK.sr mixed ?_
   iterate 2 refine GX.m rfl ?_
   refine GX.done ?_
   refine WK.ret ?_
   obtain rfl := Option.some.inj hR
   exact RetQ.fr [] (.inr rfl) rfl rfl rfl rfl
 ·rw [hb1]; try simp only [hb1, bb] at hR
  iterate 3 refine GX.skip rfl rfl ?_
  refine GX.q (.bool true) ?_
  refine GX.m rfl ?_
  iterate 8 refine GX.skip rfl rfl ?_
  refine GX.q (.bool true) ?_
  refine GX.m rfl ?_
  iterate 3 refine GX.skip rfl rfl ?_
  refine GX.q (.bool true) ?_
  refine GX.done ?_
  refine WK.condT rfl ?_
  refine WK.sr mixed ?_
  iterate 2 refine GX.m rfl ?_
  refine GX.done ?_
  refine WK.ret ?_
  obtain rfl := Option.some.inj hR
  exact RetQ.fr [] (.inr rfl) rfl rfl rfl rfl

theorem f10_ok (s0 : ByteArray) (R : TPrefix × Int) (hR : F10_addr_Parse s0 = some R) : FnOk Tryd.prog 10 [.str s0] [] 0 (.tup [.agg (TPrefix.c R.1), .int .i64 R.2]) [] 0 := by
 refine FnOk.wk i10 rfl rfl ?_
 unfold F10_addr_Parse at hR
 try dsimp only at hR
 change WK _ _ _ [ac10] _ ⟨[(0, .str s0)], [], 0⟩
 unfold ac10
 refine WK.sr mixed ?_
 refine GX.step (v' := .ptr 0 0) (heap' := [(0, .box [.int .u32 0, .int .i64 0])]) (next' := 1) rfl rfl rfl rfl rfl rfl rfl ?_
 refine GX.m rfl ?_
 refine GX.done ?_
 refine WK.sr mixed ?_
 refine GX.m rfl ?_
 generalize hc17 : cutO s0 (bstr [47]) = c17 at hR
 rcases c17 with _ | c17
 ·try dsimp only at hR
  cases hR
 try dsimp only at hR
 obtain ⟨c17a, c17b, c17c⟩ := c17; try dsimp only at hR
 refine GX.callp (r := .tup [.str c17a, .str c17b, .bool c17c]) rfl rfl rfl (f32_ok s0 (bstr [47]) _ hc17) rfl rfl ?_
 refine GX.m rfl ?_
 refine GX.q (.str c17a) ?_
 refine GX.q (.str c17b) ?_
 refine GX.q (.bool c17c) ?_
 iterate 3 refine GX.m rfl ?_
 refine GX.done ?_
 refine WK.sr mixed ?_
 refine GX.m rfl ?_
 generalize hc22 : splitO c17a (bstr [46]) = c22 at hR
 rcases c22 with _ | c22
 ·try dsimp only at hR
  cases hR
 try dsimp only at hR
 try dsimp only at hR
 refine GX.callp (r := .ro 1 (c22.map c_str)) rfl rfl rfl (f33_ok c17a (bstr [46]) _ hc22) rfl rfl ?_
 refine GX.m rfl ?_
 refine GX.done ?_
 refine WK.sr mixed ?_
 refine GX.m rfl ?_
 generalize hc25 : F34_addr_number c17b 32 = c25 at hR
 rcases c25 with _ | c25
 ·try dsimp only at hR
  cases hR
 try dsimp only at hR
 obtain ⟨c25a, c25b⟩ := c25; try dsimp only at hR
 refine GX.callp (r := .tup [.int .i64 c25a, .bool c25b]) rfl rfl rfl (f34_ok c17b 32 _ hc25) rfl rfl ?_
 refine GX.m rfl ?_
 refine GX.q (.int .i64 c25a) ?_
 refine GX.q (.bool c25b) ?_
 iterate 2 refine GX.m rfl ?_
 refine GX.done ?_
 refine WK.seq ?_
 refine WK.sr mixed ?_
 refine GX.m rfl ?_
 refine GX.q (.bool (!c17c)) ?_
 refine GX.m rfl ?_
 rcases bool_two (c17c) with hb1 | hb1
 ·rw [hb1]; first | replace hR := cond_f hb1 hR | (try simp only [hb1, bb] at hR)
  iterate 2 refine GX.skip rfl rfl ?_
  refine GX.q (.bool true) ?_
  refine GX.m rfl ?_
  iterate 3 refine GX.skip rfl rfl ?_
  refine GX.q (.bool true) ?_
  refine GX.done ?_
  refine WK.condT rfl ?_
  refine WK.sr mixed ?_
  refine GX.q (.agg [.int .u32 0, .int .i64 0]) ?_
  refine GX.step0 (heap' := [(0, .box [.int .u32 0, .int .i64 0])]) (next' := 1) rfl rfl rfl rfl rfl ?_
  refine GX.m rfl ?_
  refine GX.done ?_
  refine WK.ret ?_
  obtain rfl := Option.some.inj hR
  exact RetQ.fr [] (.inr rfl) rfl rfl rfl rfl
 ·rw [hb1]; first | replace hR := cond_t hb1 hR | (try simp only [hb1, bb] at hR)
  refine GX.m rfl ?_
  iterate 2 refine GX.q (.bool (!c25b)) ?_
  refine GX.m rfl ?_
  rcases bool_two (c25b) with hb2 | hb2
  ·rw [hb2]; first | replace hR := cond_f hb2 hR | (try simp only [hb2, bb] at hR)
   iterate 3 refine GX.skip rfl rfl ?_
   refine GX.q (.bool true) ?_
   refine GX.done ?_
   refine WK.condT rfl ?_
   refine WK.sr mixed ?_
   refine GX.q (.agg [.int .u32 0, .int .i64 0]) ?_
   refine GX.step0 (heap' := [(0, .box [.int .u32 0, .int .i64 0])]) (next' := 1) rfl rfl rfl rfl rfl ?_
   refine GX.m rfl ?_
   refine GX.done ?_
   refine WK.ret ?_
   obtain rfl := Option.some.inj hR
   exact RetQ.fr [] (.inr rfl) rfl rfl rfl rfl
  ·rw [hb2]; first | replace hR := cond_t hb2 hR | (try simp only [hb2, bb] at hR)
   refine GX.m rfl ?_
   refine GX.pure (v' := .int .i64 (c22.length : Int)) rfl rfl rfl rfl (len_map _ _) ?_
   iterate 2 refine GX.q (.bool (!decide ((c22.length : Int) = 4))) ?_
   refine GX.done ?_
   rcases bool_two (decide ((c22.length : Int) = 4)) with hb3 | hb3
   ·rw [hb3]; first | replace hR := cond_f hb3 hR | (try simp only [hb3, bb] at hR)
    refine WK.condT rfl ?_
    refine WK.sr mixed ?_
    refine GX.q (.agg [.int .u32 0, .int .i64 0]) ?_
    refine GX.step0 (heap' := [(0, .box [.int .u32 0, .int .i64 0])]) (next' := 1) rfl rfl rfl rfl rfl ?_
    refine GX.m rfl ?_
    refine GX.done ?_
    refine WK.ret ?_
    obtain rfl := Option.some.inj hR
    exact RetQ.fr [] (.inr rfl) rfl rfl rfl rfl
   ·rw [hb3]; first | replace hR := cond_t hb3 hR | (try simp only [hb3, bb] at hR)
    refine WK.condF rfl ?_
    refine WK.skip ?_
    refine WK.sr mixed ?_
    refine GX.m rfl ?_
    refine GX.q (.agg [.int .u32 0, .int .i64 c25a]) ?_
    refine GX.step (v' := .ptr 1 0) (heap' := [(0, .box [.int .u32 0, .int .i64 0]), (1, .box [.int .u32 0, .int .i64 0])]) (next' := 2) rfl rfl rfl rfl rfl rfl rfl ?_
    refine GX.step0 (heap' := [(0, .box [.int .u32 0, .int .i64 0]), (1, .box [.int .u32 0, .int .i64 c25a])]) (next' := 2) rfl rfl rfl rfl rfl ?_
    refine GX.done ?_
    refine WK.seq ?_
    refine WK.sr mixed ?_
    refine GX.m rfl ?_
    refine GX.pure (v' := .int .i64 (c22.length : Int)) rfl rfl rfl rfl (len_map _ _) ?_
    refine GX.m rfl ?_
    refine GX.done ?_
    refine WK.len (t := 22) rfl (by simp) (fun hlen_9 => ?_)
    rw [List.length_map] at hlen_9
    generalize hZ_9 : F10_addr_Parse_l1 (⟨0, c25a⟩ : TPrefix) c22 = Z_9 at hR
    refine WK.forK (fun k s => ∃ (i44 : Nat) (p10 : TPrefix), i44 ≤ c22.length ∧ k = c22.length - i44 ∧ F10_addr_Parse_l1 p10 (c22.drop i44) = Z_9 ∧ s = ⟨[(2, .ptr 0 0), (10, .ptr 1 0), (42, .ro 1 (c22.map c_str)), (43, .int .i64 (c22.length : Int)), (44, .int .i64 (i44 : Int))], [(0, .box [.int .u32 0, .int .i64 0]), (1, .box (TPrefix.c p10))], 2⟩) c22.length ⟨⟨[(2, .ptr 0 0), (10, .ptr 1 0), (42, .ro 1 (c22.map c_str)), (43, .int .i64 (c22.length : Int)), (44, .int .i64 (0 : Int))], [(0, .box [.int .u32 0, .int .i64 0]), (1, .box (TPrefix.c (⟨0, c25a⟩ : TPrefix)))], 2⟩, Conv.keep [0, 1] [] [2, 10, 42, 43, 44] rfl rfl (viewE_cons rfl rfl (viewE_cons rfl rfl (viewE_cons rfl rfl (viewE_cons rfl rfl (viewE_cons rfl rfl viewE_nil))))) rfl rfl, 0, (⟨0, c25a⟩ : TPrefix), (by omega), rfl, hZ_9, rfl⟩ ?_
    rintro _ _ ⟨i44, p10, hi_9, rfl, hL_9, rfl⟩ again_9 out_9 Q_9 hagain_9 hout_9 hQ_9
    refine WK.sr mixed ?_
    refine GX.q (.bool (decide ((i44 : Int) < (c22.length : Int)))) ?_
    refine GX.done ?_
    refine WK.seq ?_
    rcases bool_two (decide ((i44 : Int) < (c22.length : Int))) with hb10 | hb10
    ·rw [hb10]
     rw [drop_end hb10, F10_addr_Parse_l1] at hL_9
     refine WK.condF rfl ?_
     refine WK.exit ?_
     refine QF.exit (hout_9 _ ?_)
     subst hL_9
     try dsimp only [cond_true, cond_false] at hR
     refine WK.seq ?_
     refine WK.sr mixed ?_
     refine GX.q (.agg (TPrefix.c p10)) ?_
     generalize hc65 : F17_addr_May p10 = c65 at hR
     try dsimp only at hR
     refine GX.callp (r := .bool c65) rfl rfl rfl (f17_ok p10 _ hc65) rfl rfl ?_
     refine GX.q (.bool (!c65)) ?_
     refine GX.done ?_
     rcases bool_two (c65) with hb11 | hb11
     ·rw [hb11]; first | replace hR := cond_f hb11 hR | (try simp only [hb11, bb] at hR)
      refine WK.condT rfl ?_
      refine WK.sr mixed ?_
      refine GX.q (.agg [.int .u32 0, .int .i64 0]) ?_
      refine GX.step0 (heap' := [(0, .box [.int .u32 0, .int .i64 0]), (1, .box (TPrefix.c p10))]) (next' := 2) rfl rfl rfl rfl rfl ?_
      refine GX.m rfl ?_
      refine GX.done ?_
      refine WK.ret ?_
      obtain rfl := Option.some.inj hR
      exact RetQ.fr [] (.inr rfl) rfl rfl rfl rfl
     ·rw [hb11]; first | replace hR := cond_t hb11 hR | (try simp only [hb11, bb] at hR)
      refine WK.condF rfl ?_
      refine WK.skip ?_
      refine WK.sr mixed ?_
      refine GX.q (.agg (TPrefix.c p10)) ?_
      refine GX.step0 (heap' := [(0, .box (TPrefix.c p10)), (1, .box (TPrefix.c p10))]) (next' := 2) rfl rfl rfl rfl rfl ?_
      refine GX.m rfl ?_
      refine GX.done ?_
      refine WK.ret ?_
      obtain rfl := Option.some.inj hR
      exact RetQ.fr [] (.inr rfl) rfl rfl rfl rfl
    ·rw [hb10]
     obtain ⟨x44, hx9, hd9, hlt9⟩ := drop_more hb10
     rw [hd9, F10_addr_Parse_l1] at hL_9
     refine WK.condT rfl ?_
     refine WK.skip ?_
     refine WK.seq ?_
     refine WK.blockK (fun _ hK12 => ?_)
     refine WK.sr mixed ?_
     refine GX.idxT (c := c_str) (x := x44) rfl rfl rfl (Int.natCast_nonneg _) hx9 ?_
     refine GX.q (.str x44) ?_
     refine GX.m rfl ?_
     refine GX.done ?_
     refine WK.sr mixed ?_
     refine GX.m rfl ?_
     generalize hc50 : F34_addr_number x44 255 = c50 at hL_9
     rcases c50 with _ | c50
     ·try dsimp only at hL_9
      subst hL_9
      try dsimp only at hR
      cases hR
     try dsimp only at hL_9
     obtain ⟨c50a, c50b⟩ := c50; try dsimp only at hL_9
     refine GX.callp (r := .tup [.int .i64 c50a, .bool c50b]) rfl rfl rfl (f34_ok x44 255 _ hc50) rfl rfl ?_
     refine GX.m rfl ?_
     refine GX.q (.int .i64 c50a) ?_
     refine GX.q (.bool c50b) ?_
     iterate 2 refine GX.m rfl ?_
     refine GX.done ?_
     refine WK.seq ?_
     refine WK.sr mixed ?_
     refine GX.m rfl ?_
     refine GX.q (.bool (!c50b)) ?_
     refine GX.done ?_
     rcases bool_two (c50b) with hb13 | hb13
     ·rw [hb13]; try simp only [hb13, bb] at hL_9
      refine WK.condT rfl ?_
      refine WK.sr mixed ?_
      refine GX.q (.agg [.int .u32 0, .int .i64 0]) ?_
      refine GX.step0 (heap' := [(0, .box [.int .u32 0, .int .i64 0]), (1, .box (TPrefix.c p10))]) (next' := 2) rfl rfl rfl rfl rfl ?_
      refine GX.m rfl ?_
      refine GX.done ?_
      refine WK.ret ?_
      refine QF.ret ?_
      refine QF.ret (hQ_9 _ _ ?_)
      subst hL_9
      try dsimp only at hR
      obtain rfl := Option.some.inj hR
      exact RetQ.fr [] (.inr rfl) rfl rfl rfl rfl
     ·rw [hb13]; try simp only [hb13, bb] at hL_9
      refine WK.condF rfl ?_
      refine WK.skip ?_
      refine WK.regx mixed ?_
      refine GX.q (.ptr 1 0) ?_
      refine GX.q (.int .u32 p10.A) ?_
      refine GX.q (.int .u32 (IntKind.u32.wrap (p10.A * 2 ^ 8))) ?_
      refine GX.m rfl ?_
      refine GX.q (.int .u32 (IntKind.u32.wrap c50a)) ?_
      refine GX.q (.int .u32 (bit_or .u32 (IntKind.u32.wrap (p10.A * 2 ^ 8)) (IntKind.u32.wrap c50a))) ?_
      refine GX.q (.ptr 1 0) ?_
      refine GX.step0 (heap' := [(0, .box [.int .u32 0, .int .i64 0]), (1, .box [.int .u32 (bit_or .u32 (IntKind.u32.wrap (p10.A * 2 ^ 8)) (IntKind.u32.wrap c50a)), .int .i64 p10.N])]) (next' := 2) rfl rfl rfl rfl rfl ?_
      refine GX.done ?_
      refine WK.nil (QF.normal (hK12 _ ?_))
      refine WK.regx mixed ?_
      refine GX.pure (v' := .int .i64 ((i44 + 1 : Nat) : Int)) rfl rfl rfl rfl (congrArg (PVal.int .i64) (wrap_up hlt9 hlen_9)) ?_
      refine GX.m rfl ?_
      refine GX.done ?_
      refine WK.nil (QF.normal ?_)
      exact hagain_9 _ (c22.length - (i44 + 1)) ⟨[(2, .ptr 0 0), (10, .ptr 1 0), (42, .ro 1 (c22.map c_str)), (43, .int .i64 (c22.length : Int)), (44, .int .i64 ((i44 + 1) : Int))], [(0, .box [.int .u32 0, .int .i64 0]), (1, .box (TPrefix.c (⟨bit_or .u32 (IntKind.u32.wrap (p10.A * 2 ^ 8)) (IntKind.u32.wrap c50a), p10.N⟩ : TPrefix)))], 2⟩ (by omega) (Conv.keep [0, 1] [] [2, 10, 42, 43, 44] rfl rfl (viewE_cons rfl rfl (viewE_cons rfl rfl (viewE_cons rfl rfl (viewE_cons rfl rfl (viewE_cons rfl rfl viewE_nil))))) rfl rfl) ⟨i44 + 1, (⟨bit_or .u32 (IntKind.u32.wrap (p10.A * 2 ^ 8)) (IntKind.u32.wrap c50a), p10.N⟩ : TPrefix), (by omega), rfl, hL_9, rfl⟩

theorem f12_ok (p0 : TPrefix) (R : ByteArray) (hR : F12_addr_Text p0 = some R) : FnOk Tryd.prog 12 [.agg (TPrefix.c p0)] [] 0 (.str R) [] 0 := by
 refine FnOk.wk i12 rfl rfl ?_
 unfold F12_addr_Text at hR
 try dsimp only at hR
 change WK _ _ _ [ac12] _ ⟨[(0, .agg (TPrefix.c p0))], [], 0⟩
 unfold ac12
 refine WK.sr mixed ?_
 refine GX.step (v' := .ptr 0 0) (heap' := [(0, .box (TPrefix.c p0))]) (next' := 1) rfl rfl rfl rfl rfl rfl rfl ?_
 refine GX.m rfl ?_
 refine GX.done ?_
 refine WK.sr mixed ?_
 refine GX.m rfl ?_
 refine GX.done ?_
 refine WK.seq ?_
 refine WK.sr mixed ?_
 refine GX.m rfl ?_
 refine GX.done ?_
 refine WK.unroll 6 (WU.go ?_)
 refine WK.seq ?_
 refine WK.sr mixed ?_
 refine GX.m rfl ?_
 refine GX.q (.bool true) ?_
 refine GX.done ?_
 refine WK.condT rfl ?_
 refine WK.skip ?_
 refine WK.seq ?_
 refine WK.blockK (fun _ hK2 => ?_)
 refine WK.regx mixed ?_
 refine GX.m rfl ?_
 refine GX.q (.ptr 0 0) ?_
 refine GX.q (.int .u32 p0.A) ?_
 refine GX.m rfl ?_
 refine GX.q (.int .u32 (Int.fdiv p0.A (2 ^ 24))) ?_
 refine GX.q (.int .u32 (bit_and .u32 (Int.fdiv p0.A (2 ^ 24)) 255)) ?_
 refine GX.q (.int .i64 (IntKind.i64.wrap (bit_and .u32 (Int.fdiv p0.A (2 ^ 24)) 255))) ?_
 generalize hc16 : itoaO (IntKind.i64.wrap (bit_and .u32 (Int.fdiv p0.A (2 ^ 24)) 255)) = c16 at hR
 rcases c16 with _ | c16
 ·try dsimp only at hR
  cases hR
 try dsimp only at hR
 try dsimp only at hR
 refine GX.callp (r := .str c16) rfl rfl rfl (f36_ok (IntKind.i64.wrap (bit_and .u32 (Int.fdiv p0.A (2 ^ 24)) 255)) _ hc16) rfl rfl ?_
 refine GX.step (v' := .own 1 1 0 (([c16] : List ByteArray)).length) (heap' := [(0, .box (TPrefix.c p0)), (1, .row 1 9 (([c16] : List ByteArray).map c_str))]) (next' := 2) rfl rfl rfl rfl rfl rfl rfl ?_
 refine GX.appnil (c := c_str) (X := ([c16] : List ByteArray)) (heap' := [(0, .box (TPrefix.c p0)), (1, .row 1 9 (([c16] : List ByteArray).map c_str)), (2, .row 1 9 (([c16] : List ByteArray).map c_str))]) (next' := 3) rfl rfl rfl (elems_own rfl) (by ((try simp only [List.length_append, List.length_cons, List.length_nil, List.length_map, decide_eq_true_eq, decide_eq_false_iff_not] at *) <;> omega)) (by ((try simp only [List.length_append, List.length_cons, List.length_nil, List.length_map, decide_eq_true_eq, decide_eq_false_iff_not] at *) <;> omega)) rfl rfl ?_
 refine GX.m rfl ?_
 refine GX.done ?_
 refine WK.nil (QF.normal (hK2 _ ?_))
 refine WK.regx mixed ?_
 refine GX.m rfl ?_
 refine GX.q (.int .i64 16) ?_
 refine GX.m rfl ?_
 refine GX.done ?_
 refine WK.nil (QF.normal (WU.go ?_))
 refine WK.seq ?_
 refine WK.sr mixed ?_
 refine GX.m rfl ?_
 refine GX.q (.bool true) ?_
 refine GX.done ?_
 refine WK.condT rfl ?_
 refine WK.skip ?_
 refine WK.seq ?_
 refine WK.blockK (fun _ hK3 => ?_)
 refine WK.regx mixed ?_
 refine GX.m rfl ?_
 refine GX.q (.ptr 0 0) ?_
 refine GX.q (.int .u32 p0.A) ?_
 refine GX.m rfl ?_
 refine GX.q (.int .u32 (Int.fdiv p0.A (2 ^ 16))) ?_
 refine GX.q (.int .u32 (bit_and .u32 (Int.fdiv p0.A (2 ^ 16)) 255)) ?_
 refine GX.q (.int .i64 (IntKind.i64.wrap (bit_and .u32 (Int.fdiv p0.A (2 ^ 16)) 255))) ?_
 generalize hc16x : itoaO (IntKind.i64.wrap (bit_and .u32 (Int.fdiv p0.A (2 ^ 16)) 255)) = c16x at hR
 rcases c16x with _ | c16x
 ·try dsimp only at hR
  cases hR
 try dsimp only at hR
 try dsimp only at hR
 refine GX.callp (r := .str c16x) rfl rfl rfl (f36_ok (IntKind.i64.wrap (bit_and .u32 (Int.fdiv p0.A (2 ^ 16)) 255)) _ hc16x) rfl rfl ?_
 refine GX.step (v' := .own 3 1 0 (([c16x] : List ByteArray)).length) (heap' := [(0, .box (TPrefix.c p0)), (1, .row 1 9 (([c16] : List ByteArray).map c_str)), (2, .row 1 9 (([c16] : List ByteArray).map c_str)), (3, .row 1 9 (([c16x] : List ByteArray).map c_str))]) (next' := 4) rfl rfl rfl rfl rfl rfl rfl ?_
 refine GX.appT (c := c_str) (L := ([c16] : List ByteArray)) (X := ([c16x] : List ByteArray)) (heap' := [(0, .box (TPrefix.c p0)), (1, .row 1 9 (([c16] : List ByteArray).map c_str)), (3, .row 1 9 (([c16x] : List ByteArray).map c_str)), (4, .row 1 9 ((([c16] : List ByteArray) ++ ([c16x] : List ByteArray)).map c_str))]) (next' := 5) rfl rfl rfl rfl (elems_own rfl) (by ((try simp only [List.length_append, List.length_cons, List.length_nil, List.length_map, decide_eq_true_eq, decide_eq_false_iff_not] at *) <;> omega)) (by ((try simp only [List.length_append, List.length_cons, List.length_nil, List.length_map, decide_eq_true_eq, decide_eq_false_iff_not] at *) <;> omega)) rfl rfl rfl rfl ?_
 refine GX.m rfl ?_
 refine GX.done ?_
 refine WK.nil (QF.normal (hK3 _ ?_))
 refine WK.regx mixed ?_
 refine GX.m rfl ?_
 refine GX.q (.int .i64 8) ?_
 refine GX.m rfl ?_
 refine GX.done ?_
 refine WK.nil (QF.normal (WU.go ?_))
 refine WK.seq ?_
 refine WK.sr mixed ?_
 refine GX.m rfl ?_
 refine GX.q (.bool true) ?_
 refine GX.done ?_
 refine WK.condT rfl ?_
 refine WK.skip ?_
 refine WK.seq ?_
 refine WK.blockK (fun _ hK4 => ?_)
 refine WK.regx mixed ?_
 refine GX.m rfl ?_
 refine GX.q (.ptr 0 0) ?_
 refine GX.q (.int .u32 p0.A) ?_
 refine GX.m rfl ?_
 refine GX.q (.int .u32 (Int.fdiv p0.A (2 ^ 8))) ?_
 refine GX.q (.int .u32 (bit_and .u32 (Int.fdiv p0.A (2 ^ 8)) 255)) ?_
 refine GX.q (.int .i64 (IntKind.i64.wrap (bit_and .u32 (Int.fdiv p0.A (2 ^ 8)) 255))) ?_
 generalize hc16xx : itoaO (IntKind.i64.wrap (bit_and .u32 (Int.fdiv p0.A (2 ^ 8)) 255)) = c16xx at hR
 rcases c16xx with _ | c16xx
 ·try dsimp only at hR
  cases hR
 try dsimp only at hR
 try dsimp only at hR
 refine GX.callp (r := .str c16xx) rfl rfl rfl (f36_ok (IntKind.i64.wrap (bit_and .u32 (Int.fdiv p0.A (2 ^ 8)) 255)) _ hc16xx) rfl rfl ?_
 refine GX.step (v' := .own 5 1 0 (([c16xx] : List ByteArray)).length) (heap' := [(0, .box (TPrefix.c p0)), (1, .row 1 9 (([c16] : List ByteArray).map c_str)), (3, .row 1 9 (([c16x] : List ByteArray).map c_str)), (4, .row 1 9 ((([c16] : List ByteArray) ++ ([c16x] : List ByteArray)).map c_str)), (5, .row 1 9 (([c16xx] : List ByteArray).map c_str))]) (next' := 6) rfl rfl rfl rfl rfl rfl rfl ?_
 rcases bool_two (decide ((([c16] : List ByteArray) ++ ([c16x] : List ByteArray)).length < 1099511627776)) with hg5 | hg5
 ·simp only [hg5, bb] at hR
  try dsimp only at hR
  cases hR
 simp only [hg5, bb] at hR
 have hg5_ := of_decide_eq_true hg5
 refine GX.appT (c := c_str) (L := (([c16] : List ByteArray) ++ ([c16x] : List ByteArray))) (X := ([c16xx] : List ByteArray)) (heap' := [(0, .box (TPrefix.c p0)), (1, .row 1 9 (([c16] : List ByteArray).map c_str)), (3, .row 1 9 (([c16x] : List ByteArray).map c_str)), (5, .row 1 9 (([c16xx] : List ByteArray).map c_str)), (6, .row 1 9 (((([c16] : List ByteArray) ++ ([c16x] : List ByteArray)) ++ ([c16xx] : List ByteArray)).map c_str))]) (next' := 7) rfl rfl rfl rfl (elems_own rfl) (by ((try simp only [List.length_append, List.length_cons, List.length_nil, List.length_map, decide_eq_true_eq, decide_eq_false_iff_not] at *) <;> omega)) (by ((try simp only [List.length_append, List.length_cons, List.length_nil, List.length_map, decide_eq_true_eq, decide_eq_false_iff_not] at *) <;> omega)) rfl rfl rfl rfl ?_
 refine GX.m rfl ?_
 refine GX.done ?_
 refine WK.nil (QF.normal (hK4 _ ?_))
 refine WK.regx mixed ?_
 refine GX.m rfl ?_
 refine GX.q (.int .i64 0) ?_
 refine GX.m rfl ?_
 refine GX.done ?_
 refine WK.nil (QF.normal (WU.go ?_))
 refine WK.seq ?_
 refine WK.sr mixed ?_
 refine GX.m rfl ?_
 refine GX.q (.bool true) ?_
 refine GX.done ?_
 refine WK.condT rfl ?_
 refine WK.skip ?_
 refine WK.seq ?_
 refine WK.blockK (fun _ hK6 => ?_)
 refine WK.regx mixed ?_
 refine GX.m rfl ?_
 refine GX.q (.ptr 0 0) ?_
 refine GX.q (.int .u32 p0.A) ?_
 refine GX.m rfl ?_
 refine GX.q (.int .u32 (Int.fdiv p0.A (2 ^ 0))) ?_
 refine GX.q (.int .u32 (bit_and .u32 (Int.fdiv p0.A (2 ^ 0)) 255)) ?_
 refine GX.q (.int .i64 (IntKind.i64.wrap (bit_and .u32 (Int.fdiv p0.A (2 ^ 0)) 255))) ?_
 generalize hc16xxx : itoaO (IntKind.i64.wrap (bit_and .u32 (Int.fdiv p0.A (2 ^ 0)) 255)) = c16xxx at hR
 rcases c16xxx with _ | c16xxx
 ·try dsimp only at hR
  cases hR
 try dsimp only at hR
 try dsimp only at hR
 refine GX.callp (r := .str c16xxx) rfl rfl rfl (f36_ok (IntKind.i64.wrap (bit_and .u32 (Int.fdiv p0.A (2 ^ 0)) 255)) _ hc16xxx) rfl rfl ?_
 refine GX.step (v' := .own 7 1 0 (([c16xxx] : List ByteArray)).length) (heap' := [(0, .box (TPrefix.c p0)), (1, .row 1 9 (([c16] : List ByteArray).map c_str)), (3, .row 1 9 (([c16x] : List ByteArray).map c_str)), (5, .row 1 9 (([c16xx] : List ByteArray).map c_str)), (6, .row 1 9 (((([c16] : List ByteArray) ++ ([c16x] : List ByteArray)) ++ ([c16xx] : List ByteArray)).map c_str)), (7, .row 1 9 (([c16xxx] : List ByteArray).map c_str))]) (next' := 8) rfl rfl rfl rfl rfl rfl rfl ?_
 rcases bool_two (decide (((([c16] : List ByteArray) ++ ([c16x] : List ByteArray)) ++ ([c16xx] : List ByteArray)).length < 1099511627776)) with hg7 | hg7
 ·simp only [hg7, bb] at hR
  try dsimp only at hR
  cases hR
 simp only [hg7, bb] at hR
 have hg7_ := of_decide_eq_true hg7
 refine GX.appT (c := c_str) (L := ((([c16] : List ByteArray) ++ ([c16x] : List ByteArray)) ++ ([c16xx] : List ByteArray))) (X := ([c16xxx] : List ByteArray)) (heap' := [(0, .box (TPrefix.c p0)), (1, .row 1 9 (([c16] : List ByteArray).map c_str)), (3, .row 1 9 (([c16x] : List ByteArray).map c_str)), (5, .row 1 9 (([c16xx] : List ByteArray).map c_str)), (7, .row 1 9 (([c16xxx] : List ByteArray).map c_str)), (8, .row 1 9 ((((([c16] : List ByteArray) ++ ([c16x] : List ByteArray)) ++ ([c16xx] : List ByteArray)) ++ ([c16xxx] : List ByteArray)).map c_str))]) (next' := 9) rfl rfl rfl rfl (elems_own rfl) (by ((try simp only [List.length_append, List.length_cons, List.length_nil, List.length_map, decide_eq_true_eq, decide_eq_false_iff_not] at *) <;> omega)) (by ((try simp only [List.length_append, List.length_cons, List.length_nil, List.length_map, decide_eq_true_eq, decide_eq_false_iff_not] at *) <;> omega)) rfl rfl rfl rfl ?_
 refine GX.m rfl ?_
 refine GX.done ?_
 refine WK.nil (QF.normal (hK6 _ ?_))
 refine WK.regx mixed ?_
 refine GX.m rfl ?_
 refine GX.q (.int .i64 (-8)) ?_
 refine GX.m rfl ?_
 refine GX.done ?_
 refine WK.nil (QF.normal (WU.go ?_))
 refine WK.seq ?_
 refine WK.sr mixed ?_
 refine GX.m rfl ?_
 refine GX.q (.bool false) ?_
 refine GX.done ?_
 refine WK.condF rfl ?_
 refine WK.exit ?_
 refine QF.exit ?_
 refine WK.seq ?_
 refine WK.drawn mixed ?_
 refine RD.m rfl ?_
 generalize hc20 : joinO (((([c16] : List ByteArray) ++ ([c16x] : List ByteArray)) ++ ([c16xx] : List ByteArray)) ++ ([c16xxx] : List ByteArray)) (bstr [46]) = c20 at hR
 rcases c20 with _ | c20
 ·try dsimp only at hR
  cases hR
 try dsimp only at hR
 try dsimp only at hR
 refine RD.callbp (r := .str c20) [8] rfl rfl rfl (viewGo_cons (view_rowT rfl rfl) (viewGo_cons rfl viewGo_nil)) (f37_ok (((([c16] : List ByteArray) ++ ([c16x] : List ByteArray)) ++ ([c16xx] : List ByteArray)) ++ ([c16xxx] : List ByteArray)) (bstr [46]) _ hc20) rfl rfl ?_
 rcases bool_two (decide (c20.size + (bstr [47]).size ≤ 9223372036854775807)) with hg8 | hg8
 ·simp only [hg8, bb] at hR
  try dsimp only at hR
  cases hR
 simp only [hg8, bb] at hR
 have hg8_ := of_decide_eq_true hg8
 refine RD.pure (v' := .str (c20 ++ (bstr [47]))) rfl rfl rfl (core_addS (by omega)) rfl ?_
 refine RD.q (.ptr 0 1) ?_
 refine RD.q (.int .i64 p0.N) ?_
 generalize hc24 : itoaO p0.N = c24 at hR
 rcases c24 with _ | c24
 ·try dsimp only at hR
  cases hR
 try dsimp only at hR
 try dsimp only at hR
 refine RD.callp (r := .str c24) rfl rfl rfl (f36_ok p0.N _ hc24) rfl rfl ?_
 rcases bool_two (decide ((c20 ++ (bstr [47])).size + c24.size ≤ 9223372036854775807)) with hg9 | hg9
 ·simp only [hg9, bb] at hR
  try dsimp only at hR
  cases hR
 simp only [hg9, bb] at hR
 have hg9_ := of_decide_eq_true hg9
 refine RD.pure (v' := .str ((c20 ++ (bstr [47])) ++ c24)) rfl rfl rfl (core_addS (by omega)) rfl ?_
 refine RD.m rfl ?_
 refine RD.done rfl ?_
 refine WK.ret ?_
 obtain rfl := Option.some.inj hR
 exact RetQ.fr [] (.inr rfl) rfl rfl rfl rfl

theorem f22_ok (p0 : TPrefix) (a1 : Int) (R : Bool) (hR : F22_addr_Has p0 a1 = R) : FnOk Tryd.prog 22 [.agg (TPrefix.c p0), .int .u32 a1] [] 0 (.bool R) [] 0 := by
 refine FnOk.wk i22 rfl rfl ?_
 unfold F22_addr_Has at hR
 change WK _ _ _ [ac22] _ ⟨[(0, .agg (TPrefix.c p0)), (1, .int .u32 a1)], [], 0⟩
 unfold ac22
 refine WK.sr mixed ?_
 refine GX.step (v' := .ptr 0 0) (heap' := [(0, .box (TPrefix.c p0))]) (next' := 1) rfl rfl rfl rfl rfl rfl rfl ?_
 refine GX.m rfl ?_
 refine GX.done ?_
 refine WK.seq ?_
 refine WK.drawn mixed ?_
 refine RD.q (.agg (TPrefix.c p0)) ?_
 generalize hc6 : F17_addr_May p0 = c6 at hR
 try dsimp only at hR
 refine RD.callp (r := .bool c6) rfl rfl rfl (f17_ok p0 _ hc6) rfl rfl ?_
 refine RD.m rfl ?_
 rcases bool_two (c6) with hb1 | hb1
 ·rw [hb1]; try simp only [hb1, bb] at hR
  iterate 8 refine RD.skip rfl rfl ?_
  refine RD.q (.bool false) ?_
  refine RD.m rfl ?_
  refine RD.done rfl ?_
  refine WK.ret ?_
  subst hR
  exact RetQ.fr [] (.inr rfl) rfl rfl rfl rfl
 ·rw [hb1]; try simp only [hb1, bb] at hR
  refine RD.m rfl ?_
  refine RD.q (.ptr 0 1) ?_
  refine RD.q (.int .i64 p0.N) ?_
  generalize hc11 : F16_addr_Mask p0.N = c11 at hR
  try dsimp only at hR
  refine RD.callp (r := .int .u32 c11) rfl rfl rfl (f16_ok p0.N _ hc11) rfl rfl ?_
  refine RD.q (.int .u32 (bit_and .u32 a1 c11)) ?_
  refine RD.q (.ptr 0 0) ?_
  refine RD.q (.int .u32 p0.A) ?_
  iterate 2 refine RD.q (.bool (decide (bit_and .u32 a1 c11 = p0.A))) ?_
  refine RD.m rfl ?_
  refine RD.done rfl ?_
  refine WK.ret ?_
  subst hR
  exact RetQ.fr [] (.inr rfl) rfl rfl rfl rfl

theorem f14_ok (p0 : TPrefix) (q1 : TPrefix) (R : Bool) (hR : F14_addr_Covers p0 q1 = R) : FnOk Tryd.prog 14 [.agg (TPrefix.c p0), .agg (TPrefix.c q1)] [] 0 (.bool R) [] 0 := by
 refine FnOk.wk i14 rfl rfl ?_
 unfold F14_addr_Covers at hR
 change WK _ _ _ [ac14] _ ⟨[(0, .agg (TPrefix.c p0)), (1, .agg (TPrefix.c q1))], [], 0⟩
 unfold ac14
 refine WK.sr mixed ?_
 refine GX.step (v' := .ptr 0 0) (heap' := [(0, .box (TPrefix.c p0))]) (next' := 1) rfl rfl rfl rfl rfl rfl rfl ?_
 refine GX.step (v' := .ptr 1 0) (heap' := [(0, .box (TPrefix.c p0)), (1, .box (TPrefix.c q1))]) (next' := 2) rfl rfl rfl rfl rfl rfl rfl ?_
 refine GX.m rfl ?_
 refine GX.done ?_
 refine WK.sr mixed ?_
 refine GX.q (.agg (TPrefix.c q1)) ?_
 generalize hc6 : F17_addr_May q1 = c6 at hR
 try dsimp only at hR
 refine GX.callp (r := .bool c6) rfl rfl rfl (f17_ok q1 _ hc6) rfl rfl ?_
 refine GX.m rfl ?_
 rcases bool_two (c6) with hb1 | hb1
 ·rw [hb1]; try simp only [hb1, bb] at hR
  iterate 5 refine GX.skip rfl rfl ?_
  refine GX.q (.bool false) ?_
  refine GX.m rfl ?_
  iterate 4 refine GX.skip rfl rfl ?_
  refine GX.q (.bool false) ?_
  refine GX.m rfl ?_
  refine GX.done ?_
  refine WK.ret ?_
  subst hR
  exact RetQ.fr [] (.inr rfl) rfl rfl rfl rfl
 ·rw [hb1]; try simp only [hb1, bb] at hR
  refine GX.q (.ptr 0 1) ?_
  refine GX.q (.int .i64 p0.N) ?_
  refine GX.q (.ptr 1 1) ?_
  refine GX.q (.int .i64 q1.N) ?_
  iterate 2 refine GX.q (.bool (decide (p0.N ≤ q1.N))) ?_
  refine GX.m rfl ?_
  rcases bool_two (decide (p0.N ≤ q1.N)) with hb2 | hb2
  ·rw [hb2]; try simp only [hb2, bb] at hR
   iterate 4 refine GX.skip rfl rfl ?_
   refine GX.q (.bool false) ?_
   refine GX.m rfl ?_
   refine GX.done ?_
   refine WK.ret ?_
   subst hR
   exact RetQ.fr [] (.inr rfl) rfl rfl rfl rfl
  ·rw [hb2]; try simp only [hb2, bb] at hR
   refine GX.q (.agg (TPrefix.c p0)) ?_
   refine GX.q (.ptr 1 0) ?_
   refine GX.q (.int .u32 q1.A) ?_
   generalize hc18 : F22_addr_Has p0 q1.A = c18 at hR
   try dsimp only at hR
   refine GX.callp (r := .bool c18) rfl rfl rfl (f22_ok p0 q1.A _ hc18) rfl rfl ?_
   refine GX.q (.bool c18) ?_
   refine GX.m rfl ?_
   refine GX.done ?_
   refine WK.ret ?_
   subst hR
   exact RetQ.fr [] (.inr rfl) rfl rfl rfl rfl

theorem f9_ok  (R : Bool) (hR : F9_crossroadslaw03_alive = some R) : FnOk Tryd.prog 9 [] [] 0 (.bool R) [] 0 := by
 refine FnOk.wk i9 rfl rfl ?_
 unfold F9_crossroadslaw03_alive at hR
 try dsimp only at hR
 change WK _ _ _ [ac9] _ ⟨[], [], 0⟩
 unfold ac9
 refine WK.sr mixed ?_
 refine GX.m rfl ?_
 refine GX.done ?_
 refine WK.sr mixed ?_
 generalize hc8 : F10_addr_Parse (bstr [49, 48, 46, 48, 46, 48, 46, 48, 47, 56]) = c8 at hR
 rcases c8 with _ | c8
 ·try dsimp only at hR
  cases hR
 try dsimp only at hR
 obtain ⟨c8a, c8b⟩ := c8; try dsimp only at hR
 refine GX.callp (r := .tup [.agg [.int .u32 c8a.A, .int .i64 c8a.N], .int .i64 c8b]) rfl rfl rfl (f10_ok (bstr [49, 48, 46, 48, 46, 48, 46, 48, 47, 56]) _ hc8) rfl rfl ?_
 refine GX.m rfl ?_
 refine GX.q (.agg [.int .u32 c8a.A, .int .i64 c8a.N]) ?_
 refine GX.q (.int .i64 c8b) ?_
 refine GX.step (v' := .ptr 0 0) (heap' := [(0, .box [.int .u32 0, .int .i64 0])]) (next' := 1) rfl rfl rfl rfl rfl rfl rfl ?_
 refine GX.step0 (heap' := [(0, .box (TPrefix.c c8a))]) (next' := 1) rfl rfl rfl rfl rfl ?_
 refine GX.m rfl ?_
 refine GX.done ?_
 refine WK.sr mixed ?_
 generalize hc12 : F10_addr_Parse (bstr [49, 48, 46, 49, 46, 48, 46, 48, 47, 49, 54]) = c12 at hR
 rcases c12 with _ | c12
 ·try dsimp only at hR
  cases hR
 try dsimp only at hR
 obtain ⟨c12a, c12b⟩ := c12; try dsimp only at hR
 refine GX.callp (r := .tup [.agg [.int .u32 c12a.A, .int .i64 c12a.N], .int .i64 c12b]) rfl rfl rfl (f10_ok (bstr [49, 48, 46, 49, 46, 48, 46, 48, 47, 49, 54]) _ hc12) rfl rfl ?_
 refine GX.m rfl ?_
 refine GX.q (.agg [.int .u32 c12a.A, .int .i64 c12a.N]) ?_
 refine GX.q (.int .i64 c12b) ?_
 refine GX.step (v' := .ptr 1 0) (heap' := [(0, .box (TPrefix.c c8a)), (1, .box [.int .u32 0, .int .i64 0])]) (next' := 2) rfl rfl rfl rfl rfl rfl rfl ?_
 refine GX.step0 (heap' := [(0, .box (TPrefix.c c8a)), (1, .box (TPrefix.c c12a))]) (next' := 2) rfl rfl rfl rfl rfl ?_
 refine GX.m rfl ?_
 refine GX.done ?_
 refine WK.sr mixed ?_
 generalize hc16 : F10_addr_Parse (bstr [49, 48, 46, 49, 46, 48, 46, 48, 47, 56]) = c16 at hR
 rcases c16 with _ | c16
 ·try dsimp only at hR
  cases hR
 try dsimp only at hR
 obtain ⟨c16a, c16b⟩ := c16; try dsimp only at hR
 refine GX.callp (r := .tup [.agg [.int .u32 c16a.A, .int .i64 c16a.N], .int .i64 c16b]) rfl rfl rfl (f10_ok (bstr [49, 48, 46, 49, 46, 48, 46, 48, 47, 56]) _ hc16) rfl rfl ?_
 refine GX.m rfl ?_
 refine GX.q (.agg [.int .u32 c16a.A, .int .i64 c16a.N]) ?_
 refine GX.q (.int .i64 c16b) ?_
 refine GX.step (v' := .ptr 2 0) (heap' := [(0, .box (TPrefix.c c8a)), (1, .box (TPrefix.c c12a)), (2, .box [.int .u32 0, .int .i64 0])]) (next' := 3) rfl rfl rfl rfl rfl rfl rfl ?_
 refine GX.step0 (heap' := [(0, .box (TPrefix.c c8a)), (1, .box (TPrefix.c c12a)), (2, .box (TPrefix.c c16a))]) (next' := 3) rfl rfl rfl rfl rfl ?_
 refine GX.m rfl ?_
 refine GX.done ?_
 refine WK.sr mixed ?_
 refine GX.m rfl ?_
 refine GX.q (.bool (decide (c8b = 0))) ?_
 refine GX.m rfl ?_
 rcases bool_two (decide (c8b = 0)) with hb1 | hb1
 ·rw [hb1]; first | replace hR := cond_f hb1 hR | (try simp only [hb1, bb] at hR)
  iterate 2 refine GX.skip rfl rfl ?_
  refine GX.q (.bool false) ?_
  refine GX.m rfl ?_
  iterate 2 refine GX.skip rfl rfl ?_
  refine GX.q (.bool false) ?_
  refine GX.m rfl ?_
  iterate 3 refine GX.skip rfl rfl ?_
  refine GX.q (.bool false) ?_
  refine GX.m rfl ?_
  iterate 4 refine GX.skip rfl rfl ?_
  refine GX.q (.bool false) ?_
  refine GX.m rfl ?_
  iterate 3 refine GX.skip rfl rfl ?_
  refine GX.q (.bool false) ?_
  refine GX.m rfl ?_
  refine GX.done ?_
  refine WK.ret ?_
  obtain rfl := Option.some.inj hR
  exact RetQ.fr [] (.inr rfl) rfl rfl rfl rfl
 ·rw [hb1]; first | replace hR := cond_t hb1 hR | (try simp only [hb1, bb] at hR)
  refine GX.m rfl ?_
  iterate 2 refine GX.q (.bool (decide (c12b = 0))) ?_
  refine GX.m rfl ?_
  rcases bool_two (decide (c12b = 0)) with hb2 | hb2
  ·rw [hb2]; first | replace hR := cond_f hb2 hR | (try simp only [hb2, bb] at hR)
   iterate 2 refine GX.skip rfl rfl ?_
   refine GX.q (.bool false) ?_
   refine GX.m rfl ?_
   iterate 3 refine GX.skip rfl rfl ?_
   refine GX.q (.bool false) ?_
   refine GX.m rfl ?_
   iterate 4 refine GX.skip rfl rfl ?_
   refine GX.q (.bool false) ?_
   refine GX.m rfl ?_
   iterate 3 refine GX.skip rfl rfl ?_
   refine GX.q (.bool false) ?_
   refine GX.m rfl ?_
   refine GX.done ?_
   refine WK.ret ?_
   obtain rfl := Option.some.inj hR
   exact RetQ.fr [] (.inr rfl) rfl rfl rfl rfl
  ·rw [hb2]; first | replace hR := cond_t hb2 hR | (try simp only [hb2, bb] at hR)
   refine GX.m rfl ?_
   iterate 2 refine GX.q (.bool (decide (c16b = 1))) ?_
   refine GX.m rfl ?_
   rcases bool_two (decide (c16b = 1)) with hb3 | hb3
   ·rw [hb3]; first | replace hR := cond_f hb3 hR | (try simp only [hb3, bb] at hR)
    iterate 3 refine GX.skip rfl rfl ?_
    refine GX.q (.bool false) ?_
    refine GX.m rfl ?_
    iterate 4 refine GX.skip rfl rfl ?_
    refine GX.q (.bool false) ?_
    refine GX.m rfl ?_
    iterate 3 refine GX.skip rfl rfl ?_
    refine GX.q (.bool false) ?_
    refine GX.m rfl ?_
    refine GX.done ?_
    refine WK.ret ?_
    obtain rfl := Option.some.inj hR
    exact RetQ.fr [] (.inr rfl) rfl rfl rfl rfl
   ·rw [hb3]; first | replace hR := cond_t hb3 hR | (try simp only [hb3, bb] at hR)
    refine GX.q (.agg (TPrefix.c c8a)) ?_
    refine GX.q (.agg (TPrefix.c c12a)) ?_
    generalize hc32 : F14_addr_Covers c8a c12a = c32 at hR
    try dsimp only at hR
    refine GX.callp (r := .bool c32) rfl rfl rfl (f14_ok c8a c12a _ hc32) rfl rfl ?_
    refine GX.q (.bool c32) ?_
    refine GX.m rfl ?_
    rcases bool_two (c32) with hb4 | hb4
    ·rw [hb4]; first | replace hR := cond_f hb4 hR | (try simp only [hb4, bb] at hR)
     iterate 4 refine GX.skip rfl rfl ?_
     refine GX.q (.bool false) ?_
     refine GX.m rfl ?_
     iterate 3 refine GX.skip rfl rfl ?_
     refine GX.q (.bool false) ?_
     refine GX.m rfl ?_
     refine GX.done ?_
     refine WK.ret ?_
     obtain rfl := Option.some.inj hR
     exact RetQ.fr [] (.inr rfl) rfl rfl rfl rfl
    ·rw [hb4]; first | replace hR := cond_t hb4 hR | (try simp only [hb4, bb] at hR)
     refine GX.q (.agg (TPrefix.c c12a)) ?_
     refine GX.q (.agg (TPrefix.c c8a)) ?_
     generalize hc37 : F14_addr_Covers c12a c8a = c37 at hR
     try dsimp only at hR
     refine GX.callp (r := .bool c37) rfl rfl rfl (f14_ok c12a c8a _ hc37) rfl rfl ?_
     iterate 2 refine GX.q (.bool (!c37)) ?_
     refine GX.m rfl ?_
     rcases bool_two (c37) with hb5 | hb5
     ·rw [hb5]; first | replace hR := cond_f hb5 hR | (try simp only [hb5, bb] at hR)
      refine GX.q (.agg (TPrefix.c c12a)) ?_
      generalize hc42 : F12_addr_Text c12a = c42 at hR
      rcases c42 with _ | c42
      ·try dsimp only at hR
       cases hR
      try dsimp only at hR
      try dsimp only at hR
      refine GX.callp (r := .str c42) rfl rfl rfl (f12_ok c12a _ hc42) rfl rfl ?_
      iterate 2 refine GX.q (.bool (c42.toList == (bstr [49, 48, 46, 49, 46, 48, 46, 48, 47, 49, 54]).toList)) ?_
      refine GX.m rfl ?_
      refine GX.done ?_
      refine WK.ret ?_
      obtain rfl := Option.some.inj hR
      exact RetQ.fr [] (.inr rfl) rfl rfl rfl rfl
     ·rw [hb5]; first | replace hR := cond_t hb5 hR | (try simp only [hb5, bb] at hR)
      iterate 3 refine GX.skip rfl rfl ?_
      refine GX.q (.bool false) ?_
      refine GX.m rfl ?_
      refine GX.done ?_
      refine WK.ret ?_
      obtain rfl := Option.some.inj hR
      exact RetQ.fr [] (.inr rfl) rfl rfl rfl rfl

theorem f29_ok (a0 : Int) (i1 : Int) (R : Int) (hR : F29_crossroadsref03_Bit a0 i1 = R) : FnOk Tryd.prog 29 [.int .u32 a0, .int .i64 i1] [] 0 (.int .i64 R) [] 0 := by
 refine FnOk.wk i29 rfl rfl ?_
 unfold F29_crossroadsref03_Bit at hR
 change WK _ _ _ [ac29] _ ⟨[(0, .int .u32 a0), (1, .int .i64 i1)], [], 0⟩
 unfold ac29
 refine WK.sr mixed ?_
 refine GX.m rfl ?_
 refine GX.done ?_
 refine WK.seq ?_
 refine WK.sr mixed ?_
 refine GX.m rfl ?_
 refine GX.q (.bool (decide (i1 < 0))) ?_
 refine GX.m rfl ?_
 rcases bool_two (decide (i1 < 0)) with hb1 | hb1
 ·rw [hb1]; try simp only [hb1, bb] at hR
  refine GX.m rfl ?_
  iterate 2 refine GX.q (.bool (decide (31 < i1))) ?_
  refine GX.done ?_
  rcases bool_two (decide (31 < i1)) with hb2 | hb2
  ·rw [hb2]; try simp only [hb2, bb] at hR
   refine WK.condF rfl ?_
   refine WK.skip ?_
   refine WK.sr mixed ?_
   iterate 2 refine GX.m rfl ?_
   refine GX.q (.int .i64 (IntKind.i64.wrap (31 - i1))) ?_
   refine GX.q (.int .u64 (IntKind.u64.wrap (IntKind.i64.wrap (31 - i1)))) ?_
   refine GX.shr rfl rfl rfl (by exact wrap_u64_nonneg _) ?_
   refine GX.q (.int .u32 (bit_and .u32 (shr_ .u32 a0 (IntKind.u64.wrap (IntKind.i64.wrap (31 - i1)))) 1)) ?_
   refine GX.q (.int .i64 (IntKind.i64.wrap (bit_and .u32 (shr_ .u32 a0 (IntKind.u64.wrap (IntKind.i64.wrap (31 - i1)))) 1))) ?_
   refine GX.m rfl ?_
   refine GX.done ?_
   refine WK.ret ?_
   subst hR
   exact RetQ.fr [] (.inr rfl) rfl rfl rfl rfl
  ·rw [hb2]; try simp only [hb2, bb] at hR
   refine WK.condT rfl ?_
   refine WK.sr mixed ?_
   refine GX.m rfl ?_
   refine GX.done ?_
   refine WK.ret ?_
   subst hR
   exact RetQ.fr [] (.inr rfl) rfl rfl rfl rfl
 ·rw [hb1]; try simp only [hb1, bb] at hR
  iterate 2 refine GX.skip rfl rfl ?_
  refine GX.q (.bool true) ?_
  refine GX.done ?_
  refine WK.condT rfl ?_
  refine WK.sr mixed ?_
  refine GX.m rfl ?_
  refine GX.done ?_
  refine WK.ret ?_
  subst hR
  exact RetQ.fr [] (.inr rfl) rfl rfl rfl rfl

theorem f26_ok (p0 : TPrefix) (R : Bool) (hR : F26_crossroadsref03_May p0 = R) : FnOk Tryd.prog 26 [.agg (TPrefix.c p0)] [] 0 (.bool R) [] 0 := by
 refine FnOk.wk i26 rfl rfl ?_
 unfold F26_crossroadsref03_May at hR
 change WK _ _ _ [ac26] _ ⟨[(0, .agg (TPrefix.c p0))], [], 0⟩
 unfold ac26
 refine WK.sr mixed ?_
 refine GX.step (v' := .ptr 0 0) (heap' := [(0, .box (TPrefix.c p0))]) (next' := 1) rfl rfl rfl rfl rfl rfl rfl ?_
 refine GX.m rfl ?_
 refine GX.done ?_
 refine WK.seq ?_
 refine WK.sr mixed ?_
 refine GX.q (.ptr 0 1) ?_
 refine GX.q (.int .i64 p0.N) ?_
 refine GX.q (.bool (decide (p0.N < 0))) ?_
 refine GX.m rfl ?_
 rcases bool_two (decide (p0.N < 0)) with hb1 | hb1
 ·rw [hb1]; try simp only [hb1, bb] at hR
  refine GX.q (.ptr 0 1) ?_
  refine GX.q (.int .i64 p0.N) ?_
  iterate 2 refine GX.q (.bool (decide (32 < p0.N))) ?_
  refine GX.done ?_
  rcases bool_two (decide (32 < p0.N)) with hb2 | hb2
  ·rw [hb2]; try simp only [hb2, bb] at hR
   refine WK.condF rfl ?_
   refine WK.skip ?_
   refine WK.seq ?_
   refine WK.sr mixed ?_
   refine GX.q (.ptr 0 1) ?_
   refine GX.q (.int .i64 p0.N) ?_
   refine GX.m rfl ?_
   refine GX.done ?_
   generalize hZ_3 : F26_crossroadsref03_May_l1 p0 (fuelUp p0.N 32) p0.N = Z_3 at hR
   refine WK.forK (fun k s => ∃ (i3 : Int), fuelUp i3 32 ≤ k ∧ F26_crossroadsref03_May_l1 p0 k i3 = Z_3 ∧ s = ⟨[(1, .ptr 0 0), (3, .int .i64 i3)], [(0, .box (TPrefix.c p0))], 1⟩) (fuelUp p0.N 32) ⟨⟨[(1, .ptr 0 0), (3, .int .i64 p0.N)], [(0, .box (TPrefix.c p0))], 1⟩, Conv.keep [0] [] [1, 3] rfl rfl (viewE_cons rfl rfl (viewE_cons rfl rfl viewE_nil)) rfl rfl, p0.N, Nat.le_refl _, hZ_3, rfl⟩ ?_
   rintro k3 _ ⟨i3, hfu3, hL_3, rfl⟩ again_3 out_3 Q_3 hagain_3 hout_3 hQ_3
   refine WK.seq ?_
   refine WK.sr mixed ?_
   refine GX.m rfl ?_
   refine GX.q (.bool (decide (i3 < 32))) ?_
   refine GX.done ?_
   rcases bool_two (decide (i3 < 32)) with hb4 | hb4
   ·rw [hb4]
    unfold F26_crossroadsref03_May_l1 at hL_3; rw [hb4, cond_false] at hL_3
    refine WK.condF rfl ?_
    refine WK.exit ?_
    refine QF.exit (hout_3 _ ?_)
    subst hL_3
    try dsimp only [cond_true, cond_false] at hR
    refine WK.sr mixed ?_
    refine GX.m rfl ?_
    refine GX.done ?_
    refine WK.ret ?_
    subst hR
    exact RetQ.fr [] (.inr rfl) rfl rfl rfl rfl
   ·rw [hb4]
    obtain ⟨f3, rfl⟩ := fuel_pos hb4 hfu3
    unfold F26_crossroadsref03_May_l1 at hL_3; rw [hb4, cond_true] at hL_3; dsimp only at hL_3
    refine WK.condT rfl ?_
    refine WK.skip ?_
    refine WK.seq ?_
    refine WK.blockK (fun _ hK5 => ?_)
    refine WK.sr mixed ?_
    refine GX.q (.ptr 0 0) ?_
    refine GX.q (.int .u32 p0.A) ?_
    refine GX.m rfl ?_
    generalize hc21 : F29_crossroadsref03_Bit p0.A i3 = c21 at hL_3
    try dsimp only at hL_3
    refine GX.callp (r := .int .i64 c21) rfl rfl rfl (f29_ok p0.A i3 _ hc21) rfl rfl ?_
    refine GX.q (.bool (decide (c21 = 1))) ?_
    refine GX.done ?_
    rcases bool_two (decide (c21 = 1)) with hb6 | hb6
    ·rw [hb6]; try simp only [hb6, bb] at hL_3
     refine WK.condF rfl ?_
     refine WK.skip ?_
     refine WK.nil (QF.normal (hK5 _ ?_))
     refine WK.regx mixed ?_
     refine GX.m rfl ?_
     refine GX.q (.int .i64 (IntKind.i64.wrap (i3 + 1))) ?_
     refine GX.m rfl ?_
     refine GX.done ?_
     refine WK.nil (QF.normal ?_)
     exact hagain_3 _ f3 ⟨[(1, .ptr 0 0), (3, .int .i64 (IntKind.i64.wrap (i3 + 1)))], [(0, .box (TPrefix.c p0))], 1⟩ (Nat.lt_succ_self _) (Conv.keep [0] [] [1, 3] rfl rfl (viewE_cons rfl rfl (viewE_cons rfl rfl viewE_nil)) rfl rfl) ⟨(IntKind.i64.wrap (i3 + 1)), fuel_up hb4 (by decide) hfu3, hL_3, rfl⟩
    ·rw [hb6]; try simp only [hb6, bb] at hL_3
     refine WK.condT rfl ?_
     refine WK.sr mixed ?_
     refine GX.m rfl ?_
     refine GX.done ?_
     refine WK.ret ?_
     refine QF.ret ?_
     refine QF.ret (hQ_3 _ _ ?_)
     subst hL_3
     subst hR
     exact RetQ.fr [] (.inr rfl) rfl rfl rfl rfl
  ·rw [hb2]; try simp only [hb2, bb] at hR
   refine WK.condT rfl ?_
   refine WK.sr mixed ?_
   refine GX.m rfl ?_
   refine GX.done ?_
   refine WK.ret ?_
   subst hR
   exact RetQ.fr [] (.inr rfl) rfl rfl rfl rfl
 ·rw [hb1]; try simp only [hb1, bb] at hR
  iterate 3 refine GX.skip rfl rfl ?_
  refine GX.q (.bool true) ?_
  refine GX.done ?_
  refine WK.condT rfl ?_
  refine WK.sr mixed ?_
  refine GX.m rfl ?_
  refine GX.done ?_
  refine WK.ret ?_
  subst hR
  exact RetQ.fr [] (.inr rfl) rfl rfl rfl rfl

theorem f35_ok (s0 : ByteArray) (most1 : Int) (R : Int × Int) (hR : F35_crossroadsref03_number s0 most1 = some R) : FnOk Tryd.prog 35 [.str s0, .int .i64 most1] [] 0 (.tup [.int .i64 R.1, .int .i64 R.2]) [] 0 := by
 refine FnOk.wk i35 rfl rfl ?_
 unfold F35_crossroadsref03_number at hR
 try dsimp only at hR
 change WK _ _ _ [ac35] _ ⟨[(0, .str s0), (1, .int .i64 most1)], [], 0⟩
 unfold ac35
 refine WK.sr mixed ?_
 iterate 2 refine GX.m rfl ?_
 refine GX.done ?_
 refine WK.sr mixed ?_
 iterate 2 refine GX.m rfl ?_
 refine GX.done ?_
 refine WK.seq ?_
 generalize hZ_6 : F35_crossroadsref03_number_l1 s0 100 0 0 = Z_6 at hR
 refine WK.forK (fun k s => ∃ (n6 : Int) (k7 : Int), F35_crossroadsref03_number_l1 s0 k n6 k7 = Z_6 ∧ s = ⟨[(0, .str s0), (1, .int .i64 most1), (6, .int .i64 n6), (7, .int .i64 k7)], [], 0⟩) 100 ⟨⟨[(0, .str s0), (1, .int .i64 most1), (6, .int .i64 0), (7, .int .i64 0)], [], 0⟩, Conv.keep [] [] [0, 1, 6, 7] rfl rfl (viewE_cons rfl rfl (viewE_cons rfl rfl (viewE_cons rfl rfl (viewE_cons rfl rfl viewE_nil)))) rfl rfl, 0, 0, hZ_6, rfl⟩ ?_
 rintro k6 _ ⟨n6, k7, hL_6, rfl⟩ again_6 out_6 Q_6 hagain_6 hout_6 hQ_6
 rcases k6 with _ | f6
 ·unfold F35_crossroadsref03_number_l1 at hL_6
  try dsimp only at hL_6
  subst hL_6
  try dsimp only at hR
  cases hR
 unfold F35_crossroadsref03_number_l1 at hL_6; try dsimp only at hL_6
 refine WK.seq ?_
 refine WK.sr mixed ?_
 iterate 2 refine GX.m rfl ?_
 refine GX.q (.int .i64 (s0.size : Int)) ?_
 refine GX.q (.bool (decide (k7 < (s0.size : Int)))) ?_
 refine GX.m rfl ?_
 rcases bool_two (decide (k7 < (s0.size : Int))) with hb7 | hb7
 ·rw [hb7]; try simp only [hb7, bb] at hL_6
  iterate 4 refine GX.skip rfl rfl ?_
  refine GX.q (.bool false) ?_
  refine GX.m rfl ?_
  iterate 4 refine GX.skip rfl rfl ?_
  refine GX.q (.bool false) ?_
  refine GX.m rfl ?_
  iterate 2 refine GX.skip rfl rfl ?_
  refine GX.q (.bool false) ?_
  refine GX.done ?_
  refine WK.condF rfl ?_
  refine WK.exit ?_
  refine QF.exit (hout_6 _ ?_)
  subst hL_6
  try dsimp only [cond_true, cond_false] at hR
  refine WK.seq ?_
  refine WK.sr mixed ?_
  refine GX.m rfl ?_
  refine GX.q (.bool (decide (k7 = 0))) ?_
  refine GX.m rfl ?_
  rcases bool_two (decide (k7 = 0)) with hb8 | hb8
  ·rw [hb8]; first | replace hR := cond_f hb8 hR | (try simp only [hb8, bb] at hR)
   refine GX.m rfl ?_
   refine GX.q (.bool (decide (1 < k7))) ?_
   refine GX.m rfl ?_
   rcases bool_two (decide (1 < k7)) with hb9 | hb9
   ·rw [hb9]; first | replace hR := cond_f hb9 hR | (try simp only [hb9, bb] at hR)
    iterate 3 refine GX.skip rfl rfl ?_
    iterate 2 refine GX.q (.bool false) ?_
    iterate 3 refine GX.m rfl ?_
    iterate 2 refine GX.q (.bool (decide (most1 < n6))) ?_
    refine GX.done ?_
    rcases bool_two (decide (most1 < n6)) with hb10 | hb10
    ·rw [hb10]; first | replace hR := cond_f hb10 hR | (try simp only [hb10, bb] at hR)
     refine WK.condF rfl ?_
     refine WK.skip ?_
     refine WK.sr mixed ?_
     iterate 4 refine GX.m rfl ?_
     refine GX.done ?_
     refine WK.ret ?_
     obtain rfl := Option.some.inj hR
     exact RetQ.fr [] (.inr rfl) rfl rfl rfl rfl
    ·rw [hb10]; first | replace hR := cond_t hb10 hR | (try simp only [hb10, bb] at hR)
     refine WK.condT rfl ?_
     refine WK.sr mixed ?_
     iterate 2 refine GX.m rfl ?_
     refine GX.done ?_
     refine WK.ret ?_
     obtain rfl := Option.some.inj hR
     exact RetQ.fr [] (.inr rfl) rfl rfl rfl rfl
   ·rw [hb9]; first | replace hR := cond_t hb9 hR | (try simp only [hb9, bb] at hR)
    refine GX.m rfl ?_
    rcases bool_two (decide ((0 : Int) < (s0.size : Int))) with hg11 | hg11
    ·simp only [hg11, bb] at hR
     try dsimp only at hR
     cases hR
    simp only [hg11, bb] at hR
    have hg11_ := of_decide_eq_true hg11
    refine GX.pure (v' := .int .u8 (strAt s0 0)) rfl rfl rfl (core_idxSG (by omega) (by omega)) rfl ?_
    iterate 3 refine GX.q (.bool (decide ((strAt s0 0) = 48))) ?_
    refine GX.m rfl ?_
    rcases bool_two (decide ((strAt s0 0) = 48)) with hb12 | hb12
    ·rw [hb12]; first | replace hR := cond_f hb12 hR | (try simp only [hb12, bb] at hR)
     iterate 2 refine GX.m rfl ?_
     iterate 2 refine GX.q (.bool (decide (most1 < n6))) ?_
     refine GX.done ?_
     rcases bool_two (decide (most1 < n6)) with hb13 | hb13
     ·rw [hb13]; first | replace hR := cond_f hb13 hR | (try simp only [hb13, bb] at hR)
      refine WK.condF rfl ?_
      refine WK.skip ?_
      refine WK.sr mixed ?_
      iterate 4 refine GX.m rfl ?_
      refine GX.done ?_
      refine WK.ret ?_
      obtain rfl := Option.some.inj hR
      exact RetQ.fr [] (.inr rfl) rfl rfl rfl rfl
     ·rw [hb13]; first | replace hR := cond_t hb13 hR | (try simp only [hb13, bb] at hR)
      refine WK.condT rfl ?_
      refine WK.sr mixed ?_
      iterate 2 refine GX.m rfl ?_
      refine GX.done ?_
      refine WK.ret ?_
      obtain rfl := Option.some.inj hR
      exact RetQ.fr [] (.inr rfl) rfl rfl rfl rfl
    ·rw [hb12]; first | replace hR := cond_t hb12 hR | (try simp only [hb12, bb] at hR)
     iterate 3 refine GX.skip rfl rfl ?_
     refine GX.q (.bool true) ?_
     refine GX.done ?_
     refine WK.condT rfl ?_
     refine WK.sr mixed ?_
     iterate 2 refine GX.m rfl ?_
     refine GX.done ?_
     refine WK.ret ?_
     obtain rfl := Option.some.inj hR
     exact RetQ.fr [] (.inr rfl) rfl rfl rfl rfl
  ·rw [hb8]; first | replace hR := cond_t hb8 hR | (try simp only [hb8, bb] at hR)
   iterate 7 refine GX.skip rfl rfl ?_
   refine GX.q (.bool true) ?_
   refine GX.m rfl ?_
   iterate 3 refine GX.skip rfl rfl ?_
   refine GX.q (.bool true) ?_
   refine GX.done ?_
   refine WK.condT rfl ?_
   refine WK.sr mixed ?_
   iterate 2 refine GX.m rfl ?_
   refine GX.done ?_
   refine WK.ret ?_
   obtain rfl := Option.some.inj hR
   exact RetQ.fr [] (.inr rfl) rfl rfl rfl rfl
 ·rw [hb7]; try simp only [hb7, bb] at hL_6
  iterate 2 refine GX.m rfl ?_
  rcases bool_two (decide ((0 : Int) ≤ k7)) with hg14 | hg14
  ·simp only [hg14, bb] at hL_6
   try dsimp only at hL_6
   subst hL_6
   try dsimp only at hR
   cases hR
  simp only [hg14, bb] at hL_6
  have hg14_ := of_decide_eq_true hg14
  refine GX.pure (v' := .int .u8 (strAt s0 k7)) rfl rfl rfl (core_idxSG (by omega) (by ((try simp only [decide_eq_true_eq, decide_eq_false_iff_not, Bool.not_eq_true, Bool.not_eq_false] at *); first | omega | (rw [wrap64_of (by omega) (by omega)]; omega) | (unfold min_ max_; (repeat' split) <;> first | omega | (rw [wrap64_of (by omega) (by omega)]; omega))))) rfl ?_
  iterate 2 refine GX.q (.bool (decide (48 ≤ (strAt s0 k7)))) ?_
  refine GX.m rfl ?_
  rcases bool_two (decide (48 ≤ (strAt s0 k7))) with hb15 | hb15
  ·rw [hb15]; try simp only [hb15, bb] at hL_6
   iterate 4 refine GX.skip rfl rfl ?_
   refine GX.q (.bool false) ?_
   refine GX.m rfl ?_
   iterate 2 refine GX.skip rfl rfl ?_
   refine GX.q (.bool false) ?_
   refine GX.done ?_
   refine WK.condF rfl ?_
   refine WK.exit ?_
   refine QF.exit (hout_6 _ ?_)
   subst hL_6
   try dsimp only [cond_true, cond_false] at hR
   refine WK.seq ?_
   refine WK.sr mixed ?_
   refine GX.m rfl ?_
   refine GX.q (.bool (decide (k7 = 0))) ?_
   refine GX.m rfl ?_
   rcases bool_two (decide (k7 = 0)) with hb16 | hb16
   ·rw [hb16]; first | replace hR := cond_f hb16 hR | (try simp only [hb16, bb] at hR)
    refine GX.m rfl ?_
    refine GX.q (.bool (decide (1 < k7))) ?_
    refine GX.m rfl ?_
    rcases bool_two (decide (1 < k7)) with hb17 | hb17
    ·rw [hb17]; first | replace hR := cond_f hb17 hR | (try simp only [hb17, bb] at hR)
     iterate 3 refine GX.skip rfl rfl ?_
     iterate 2 refine GX.q (.bool false) ?_
     iterate 3 refine GX.m rfl ?_
     iterate 2 refine GX.q (.bool (decide (most1 < n6))) ?_
     refine GX.done ?_
     rcases bool_two (decide (most1 < n6)) with hb18 | hb18
     ·rw [hb18]; first | replace hR := cond_f hb18 hR | (try simp only [hb18, bb] at hR)
      refine WK.condF rfl ?_
      refine WK.skip ?_
      refine WK.sr mixed ?_
      iterate 4 refine GX.m rfl ?_
      refine GX.done ?_
      refine WK.ret ?_
      obtain rfl := Option.some.inj hR
      exact RetQ.fr [] (.inr rfl) rfl rfl rfl rfl
     ·rw [hb18]; first | replace hR := cond_t hb18 hR | (try simp only [hb18, bb] at hR)
      refine WK.condT rfl ?_
      refine WK.sr mixed ?_
      iterate 2 refine GX.m rfl ?_
      refine GX.done ?_
      refine WK.ret ?_
      obtain rfl := Option.some.inj hR
      exact RetQ.fr [] (.inr rfl) rfl rfl rfl rfl
    ·rw [hb17]; first | replace hR := cond_t hb17 hR | (try simp only [hb17, bb] at hR)
     refine GX.m rfl ?_
     rcases bool_two (decide ((0 : Int) < (s0.size : Int))) with hg19 | hg19
     ·simp only [hg19, bb] at hR
      try dsimp only at hR
      cases hR
     simp only [hg19, bb] at hR
     have hg19_ := of_decide_eq_true hg19
     refine GX.pure (v' := .int .u8 (strAt s0 0)) rfl rfl rfl (core_idxSG (by omega) (by omega)) rfl ?_
     iterate 3 refine GX.q (.bool (decide ((strAt s0 0) = 48))) ?_
     refine GX.m rfl ?_
     rcases bool_two (decide ((strAt s0 0) = 48)) with hb20 | hb20
     ·rw [hb20]; first | replace hR := cond_f hb20 hR | (try simp only [hb20, bb] at hR)
      iterate 2 refine GX.m rfl ?_
      iterate 2 refine GX.q (.bool (decide (most1 < n6))) ?_
      refine GX.done ?_
      rcases bool_two (decide (most1 < n6)) with hb21 | hb21
      ·rw [hb21]; first | replace hR := cond_f hb21 hR | (try simp only [hb21, bb] at hR)
       refine WK.condF rfl ?_
       refine WK.skip ?_
       refine WK.sr mixed ?_
       iterate 4 refine GX.m rfl ?_
       refine GX.done ?_
       refine WK.ret ?_
       obtain rfl := Option.some.inj hR
       exact RetQ.fr [] (.inr rfl) rfl rfl rfl rfl
      ·rw [hb21]; first | replace hR := cond_t hb21 hR | (try simp only [hb21, bb] at hR)
       refine WK.condT rfl ?_
       refine WK.sr mixed ?_
       iterate 2 refine GX.m rfl ?_
       refine GX.done ?_
       refine WK.ret ?_
       obtain rfl := Option.some.inj hR
       exact RetQ.fr [] (.inr rfl) rfl rfl rfl rfl
     ·rw [hb20]; first | replace hR := cond_t hb20 hR | (try simp only [hb20, bb] at hR)
      iterate 3 refine GX.skip rfl rfl ?_
      refine GX.q (.bool true) ?_
      refine GX.done ?_
      refine WK.condT rfl ?_
      refine WK.sr mixed ?_
      iterate 2 refine GX.m rfl ?_
      refine GX.done ?_
      refine WK.ret ?_
      obtain rfl := Option.some.inj hR
      exact RetQ.fr [] (.inr rfl) rfl rfl rfl rfl
   ·rw [hb16]; first | replace hR := cond_t hb16 hR | (try simp only [hb16, bb] at hR)
    iterate 7 refine GX.skip rfl rfl ?_
    refine GX.q (.bool true) ?_
    refine GX.m rfl ?_
    iterate 3 refine GX.skip rfl rfl ?_
    refine GX.q (.bool true) ?_
    refine GX.done ?_
    refine WK.condT rfl ?_
    refine WK.sr mixed ?_
    iterate 2 refine GX.m rfl ?_
    refine GX.done ?_
    refine WK.ret ?_
    obtain rfl := Option.some.inj hR
    exact RetQ.fr [] (.inr rfl) rfl rfl rfl rfl
  ·rw [hb15]; try simp only [hb15, bb] at hL_6
   iterate 2 refine GX.m rfl ?_
   refine GX.pure (v' := .int .u8 (strAt s0 k7)) rfl rfl rfl (core_idxSG (by omega) (by ((try simp only [decide_eq_true_eq, decide_eq_false_iff_not, Bool.not_eq_true, Bool.not_eq_false] at *); first | omega | (rw [wrap64_of (by omega) (by omega)]; omega) | (unfold min_ max_; (repeat' split) <;> first | omega | (rw [wrap64_of (by omega) (by omega)]; omega))))) rfl ?_
   iterate 2 refine GX.q (.bool (decide ((strAt s0 k7) ≤ 57))) ?_
   refine GX.m rfl ?_
   rcases bool_two (decide ((strAt s0 k7) ≤ 57)) with hb22 | hb22
   ·rw [hb22]; try simp only [hb22, bb] at hL_6
    iterate 2 refine GX.skip rfl rfl ?_
    refine GX.q (.bool false) ?_
    refine GX.done ?_
    refine WK.condF rfl ?_
    refine WK.exit ?_
    refine QF.exit (hout_6 _ ?_)
    subst hL_6
    try dsimp only [cond_true, cond_false] at hR
    refine WK.seq ?_
    refine WK.sr mixed ?_
    refine GX.m rfl ?_
    refine GX.q (.bool (decide (k7 = 0))) ?_
    refine GX.m rfl ?_
    rcases bool_two (decide (k7 = 0)) with hb23 | hb23
    ·rw [hb23]; first | replace hR := cond_f hb23 hR | (try simp only [hb23, bb] at hR)
     refine GX.m rfl ?_
     refine GX.q (.bool (decide (1 < k7))) ?_
     refine GX.m rfl ?_
     rcases bool_two (decide (1 < k7)) with hb24 | hb24
     ·rw [hb24]; first | replace hR := cond_f hb24 hR | (try simp only [hb24, bb] at hR)
      iterate 3 refine GX.skip rfl rfl ?_
      iterate 2 refine GX.q (.bool false) ?_
      iterate 3 refine GX.m rfl ?_
      iterate 2 refine GX.q (.bool (decide (most1 < n6))) ?_
      refine GX.done ?_
      rcases bool_two (decide (most1 < n6)) with hb25 | hb25
      ·rw [hb25]; first | replace hR := cond_f hb25 hR | (try simp only [hb25, bb] at hR)
       refine WK.condF rfl ?_
       refine WK.skip ?_
       refine WK.sr mixed ?_
       iterate 4 refine GX.m rfl ?_
       refine GX.done ?_
       refine WK.ret ?_
       obtain rfl := Option.some.inj hR
       exact RetQ.fr [] (.inr rfl) rfl rfl rfl rfl
      ·rw [hb25]; first | replace hR := cond_t hb25 hR | (try simp only [hb25, bb] at hR)
       refine WK.condT rfl ?_
       refine WK.sr mixed ?_
       iterate 2 refine GX.m rfl ?_
       refine GX.done ?_
       refine WK.ret ?_
       obtain rfl := Option.some.inj hR
       exact RetQ.fr [] (.inr rfl) rfl rfl rfl rfl
     ·rw [hb24]; first | replace hR := cond_t hb24 hR | (try simp only [hb24, bb] at hR)
      refine GX.m rfl ?_
      rcases bool_two (decide ((0 : Int) < (s0.size : Int))) with hg26 | hg26
      ·simp only [hg26, bb] at hR
       try dsimp only at hR
       cases hR
      simp only [hg26, bb] at hR
      have hg26_ := of_decide_eq_true hg26
      refine GX.pure (v' := .int .u8 (strAt s0 0)) rfl rfl rfl (core_idxSG (by omega) (by omega)) rfl ?_
      iterate 3 refine GX.q (.bool (decide ((strAt s0 0) = 48))) ?_
      refine GX.m rfl ?_
      rcases bool_two (decide ((strAt s0 0) = 48)) with hb27 | hb27
      ·rw [hb27]; first | replace hR := cond_f hb27 hR | (try simp only [hb27, bb] at hR)
       iterate 2 refine GX.m rfl ?_
       iterate 2 refine GX.q (.bool (decide (most1 < n6))) ?_
       refine GX.done ?_
       rcases bool_two (decide (most1 < n6)) with hb28 | hb28
       ·rw [hb28]; first | replace hR := cond_f hb28 hR | (try simp only [hb28, bb] at hR)
        refine WK.condF rfl ?_
        refine WK.skip ?_
        refine WK.sr mixed ?_
        iterate 4 refine GX.m rfl ?_
        refine GX.done ?_
        refine WK.ret ?_
        obtain rfl := Option.some.inj hR
        exact RetQ.fr [] (.inr rfl) rfl rfl rfl rfl
       ·rw [hb28]; first | replace hR := cond_t hb28 hR | (try simp only [hb28, bb] at hR)
        refine WK.condT rfl ?_
        refine WK.sr mixed ?_
        iterate 2 refine GX.m rfl ?_
        refine GX.done ?_
        refine WK.ret ?_
        obtain rfl := Option.some.inj hR
        exact RetQ.fr [] (.inr rfl) rfl rfl rfl rfl
      ·rw [hb27]; first | replace hR := cond_t hb27 hR | (try simp only [hb27, bb] at hR)
       iterate 3 refine GX.skip rfl rfl ?_
       refine GX.q (.bool true) ?_
       refine GX.done ?_
       refine WK.condT rfl ?_
       refine WK.sr mixed ?_
       iterate 2 refine GX.m rfl ?_
       refine GX.done ?_
       refine WK.ret ?_
       obtain rfl := Option.some.inj hR
       exact RetQ.fr [] (.inr rfl) rfl rfl rfl rfl
    ·rw [hb23]; first | replace hR := cond_t hb23 hR | (try simp only [hb23, bb] at hR)
     iterate 7 refine GX.skip rfl rfl ?_
     refine GX.q (.bool true) ?_
     refine GX.m rfl ?_
     iterate 3 refine GX.skip rfl rfl ?_
     refine GX.q (.bool true) ?_
     refine GX.done ?_
     refine WK.condT rfl ?_
     refine WK.sr mixed ?_
     iterate 2 refine GX.m rfl ?_
     refine GX.done ?_
     refine WK.ret ?_
     obtain rfl := Option.some.inj hR
     exact RetQ.fr [] (.inr rfl) rfl rfl rfl rfl
   ·rw [hb22]; try simp only [hb22, bb] at hL_6
    refine GX.m rfl ?_
    iterate 2 refine GX.q (.bool (decide (k7 < 4))) ?_
    refine GX.done ?_
    rcases bool_two (decide (k7 < 4)) with hb29 | hb29
    ·rw [hb29]; try simp only [hb29, bb] at hL_6
     refine WK.condF rfl ?_
     refine WK.exit ?_
     refine QF.exit (hout_6 _ ?_)
     subst hL_6
     try dsimp only [cond_true, cond_false] at hR
     refine WK.seq ?_
     refine WK.sr mixed ?_
     refine GX.m rfl ?_
     refine GX.q (.bool (decide (k7 = 0))) ?_
     refine GX.m rfl ?_
     rcases bool_two (decide (k7 = 0)) with hb30 | hb30
     ·rw [hb30]; first | replace hR := cond_f hb30 hR | (try simp only [hb30, bb] at hR)
      refine GX.m rfl ?_
      refine GX.q (.bool (decide (1 < k7))) ?_
      refine GX.m rfl ?_
      rcases bool_two (decide (1 < k7)) with hb31 | hb31
      ·rw [hb31]; first | replace hR := cond_f hb31 hR | (try simp only [hb31, bb] at hR)
       iterate 3 refine GX.skip rfl rfl ?_
       iterate 2 refine GX.q (.bool false) ?_
       iterate 3 refine GX.m rfl ?_
       iterate 2 refine GX.q (.bool (decide (most1 < n6))) ?_
       refine GX.done ?_
       rcases bool_two (decide (most1 < n6)) with hb32 | hb32
       ·rw [hb32]; first | replace hR := cond_f hb32 hR | (try simp only [hb32, bb] at hR)
        refine WK.condF rfl ?_
        refine WK.skip ?_
        refine WK.sr mixed ?_
        iterate 4 refine GX.m rfl ?_
        refine GX.done ?_
        refine WK.ret ?_
        obtain rfl := Option.some.inj hR
        exact RetQ.fr [] (.inr rfl) rfl rfl rfl rfl
       ·rw [hb32]; first | replace hR := cond_t hb32 hR | (try simp only [hb32, bb] at hR)
        refine WK.condT rfl ?_
        refine WK.sr mixed ?_
        iterate 2 refine GX.m rfl ?_
        refine GX.done ?_
        refine WK.ret ?_
        obtain rfl := Option.some.inj hR
        exact RetQ.fr [] (.inr rfl) rfl rfl rfl rfl
      ·rw [hb31]; first | replace hR := cond_t hb31 hR | (try simp only [hb31, bb] at hR)
       refine GX.m rfl ?_
       rcases bool_two (decide ((0 : Int) < (s0.size : Int))) with hg33 | hg33
       ·simp only [hg33, bb] at hR
        try dsimp only at hR
        cases hR
       simp only [hg33, bb] at hR
       have hg33_ := of_decide_eq_true hg33
       refine GX.pure (v' := .int .u8 (strAt s0 0)) rfl rfl rfl (core_idxSG (by omega) (by omega)) rfl ?_
       iterate 3 refine GX.q (.bool (decide ((strAt s0 0) = 48))) ?_
       refine GX.m rfl ?_
       rcases bool_two (decide ((strAt s0 0) = 48)) with hb34 | hb34
       ·rw [hb34]; first | replace hR := cond_f hb34 hR | (try simp only [hb34, bb] at hR)
        iterate 2 refine GX.m rfl ?_
        iterate 2 refine GX.q (.bool (decide (most1 < n6))) ?_
        refine GX.done ?_
        rcases bool_two (decide (most1 < n6)) with hb35 | hb35
        ·rw [hb35]; first | replace hR := cond_f hb35 hR | (try simp only [hb35, bb] at hR)
         refine WK.condF rfl ?_
         refine WK.skip ?_
         refine WK.sr mixed ?_
         iterate 4 refine GX.m rfl ?_
         refine GX.done ?_
         refine WK.ret ?_
         obtain rfl := Option.some.inj hR
         exact RetQ.fr [] (.inr rfl) rfl rfl rfl rfl
        ·rw [hb35]; first | replace hR := cond_t hb35 hR | (try simp only [hb35, bb] at hR)
         refine WK.condT rfl ?_
         refine WK.sr mixed ?_
         iterate 2 refine GX.m rfl ?_
         refine GX.done ?_
         refine WK.ret ?_
         obtain rfl := Option.some.inj hR
         exact RetQ.fr [] (.inr rfl) rfl rfl rfl rfl
       ·rw [hb34]; first | replace hR := cond_t hb34 hR | (try simp only [hb34, bb] at hR)
        iterate 3 refine GX.skip rfl rfl ?_
        refine GX.q (.bool true) ?_
        refine GX.done ?_
        refine WK.condT rfl ?_
        refine WK.sr mixed ?_
        iterate 2 refine GX.m rfl ?_
        refine GX.done ?_
        refine WK.ret ?_
        obtain rfl := Option.some.inj hR
        exact RetQ.fr [] (.inr rfl) rfl rfl rfl rfl
     ·rw [hb30]; first | replace hR := cond_t hb30 hR | (try simp only [hb30, bb] at hR)
      iterate 7 refine GX.skip rfl rfl ?_
      refine GX.q (.bool true) ?_
      refine GX.m rfl ?_
      iterate 3 refine GX.skip rfl rfl ?_
      refine GX.q (.bool true) ?_
      refine GX.done ?_
      refine WK.condT rfl ?_
      refine WK.sr mixed ?_
      iterate 2 refine GX.m rfl ?_
      refine GX.done ?_
      refine WK.ret ?_
      obtain rfl := Option.some.inj hR
      exact RetQ.fr [] (.inr rfl) rfl rfl rfl rfl
    ·rw [hb29]; try simp only [hb29, bb] at hL_6
     refine WK.condT rfl ?_
     refine WK.skip ?_
     refine WK.blockK (fun _ hK36 => ?_)
     refine WK.sr mixed ?_
     refine GX.m rfl ?_
     refine GX.q (.int .i64 (IntKind.i64.wrap (n6 * 10))) ?_
     iterate 2 refine GX.m rfl ?_
     refine GX.pure (v' := .int .u8 (strAt s0 k7)) rfl rfl rfl (core_idxSG (by omega) (by ((try simp only [decide_eq_true_eq, decide_eq_false_iff_not, Bool.not_eq_true, Bool.not_eq_false] at *); first | omega | (rw [wrap64_of (by omega) (by omega)]; omega) | (unfold min_ max_; (repeat' split) <;> first | omega | (rw [wrap64_of (by omega) (by omega)]; omega))))) rfl ?_
     refine GX.q (.int .u8 (IntKind.u8.wrap ((strAt s0 k7) - 48))) ?_
     refine GX.q (.int .i64 (IntKind.i64.wrap (IntKind.u8.wrap ((strAt s0 k7) - 48)))) ?_
     refine GX.q (.int .i64 (IntKind.i64.wrap ((IntKind.i64.wrap (n6 * 10)) + (IntKind.i64.wrap (IntKind.u8.wrap ((strAt s0 k7) - 48)))))) ?_
     refine GX.m rfl ?_
     refine GX.done ?_
     refine WK.regx mixed ?_
     refine GX.m rfl ?_
     refine GX.q (.int .i64 (IntKind.i64.wrap (k7 + 1))) ?_
     refine GX.m rfl ?_
     refine GX.done ?_
     refine WK.nil (QF.normal (hK36 _ ?_))
     refine WK.nil (QF.normal ?_)
     exact hagain_6 _ f6 ⟨[(0, .str s0), (1, .int .i64 most1), (6, .int .i64 (IntKind.i64.wrap ((IntKind.i64.wrap (n6 * 10)) + (IntKind.i64.wrap (IntKind.u8.wrap ((strAt s0 k7) - 48)))))), (7, .int .i64 (IntKind.i64.wrap (k7 + 1)))], [], 0⟩ (Nat.lt_succ_self _) (Conv.keep [] [] [0, 1, 6, 7] rfl rfl (viewE_cons rfl rfl (viewE_cons rfl rfl (viewE_cons rfl rfl (viewE_cons rfl rfl viewE_nil)))) rfl rfl) ⟨(IntKind.i64.wrap ((IntKind.i64.wrap (n6 * 10)) + (IntKind.i64.wrap (IntKind.u8.wrap ((strAt s0 k7) - 48))))), (IntKind.i64.wrap (k7 + 1)), hL_6, rfl⟩

theorem f11_ok (s0 : ByteArray) (R : TPrefix × Int) (hR : F11_crossroadsref03_Parse s0 = some R) : FnOk Tryd.prog 11 [.str s0] [] 0 (.tup [.agg (TPrefix.c R.1), .int .i64 R.2]) [] 0 := by
 refine FnOk.wk i11 rfl rfl ?_
 unfold F11_crossroadsref03_Parse at hR
 try dsimp only at hR
 change WK _ _ _ [ac11] _ ⟨[(0, .str s0)], [], 0⟩
 unfold ac11
 refine WK.sr mixed ?_
 refine GX.step (v' := .ptr 0 0) (heap' := [(0, .box [.int .u32 0, .int .i64 0])]) (next' := 1) rfl rfl rfl rfl rfl rfl rfl ?_
 refine GX.m rfl ?_
 refine GX.done ?_
 refine WK.sr mixed ?_
 refine GX.m rfl ?_
 refine GX.done ?_
 refine WK.seq ?_
 refine WK.sr mixed ?_
 refine GX.m rfl ?_
 refine GX.done ?_
 generalize hZ_10 : F11_crossroadsref03_Parse_l1 100 s0 0 0 = Z_10 at hR
 refine WK.forK (fun k s => ∃ (s0x : ByteArray) (a4 : Int) (i5 : Int), F11_crossroadsref03_Parse_l1 k s0x a4 i5 = Z_10 ∧ s = ⟨[(0, .str s0x), (2, .ptr 0 0), (4, .int .u32 a4), (5, .int .i64 i5)], [(0, .box [.int .u32 0, .int .i64 0])], 1⟩) 100 ⟨⟨[(0, .str s0), (2, .ptr 0 0), (4, .int .u32 0), (5, .int .i64 0)], [(0, .box [.int .u32 0, .int .i64 0])], 1⟩, Conv.keep [0] [] [0, 2, 4, 5] rfl rfl (viewE_cons rfl rfl (viewE_cons rfl rfl (viewE_cons rfl rfl (viewE_cons rfl rfl viewE_nil)))) rfl rfl, s0, 0, 0, hZ_10, rfl⟩ ?_
 rintro k10 _ ⟨s0x, a4, i5, hL_10, rfl⟩ again_10 out_10 Q_10 hagain_10 hout_10 hQ_10
 rcases k10 with _ | f10
 ·unfold F11_crossroadsref03_Parse_l1 at hL_10
  try dsimp only at hL_10
  subst hL_10
  try dsimp only at hR
  cases hR
 unfold F11_crossroadsref03_Parse_l1 at hL_10; try dsimp only at hL_10
 refine WK.seq ?_
 refine WK.sr mixed ?_
 refine GX.m rfl ?_
 refine GX.q (.bool (decide (i5 < 4))) ?_
 refine GX.done ?_
 rcases bool_two (decide (i5 < 4)) with hb11 | hb11
 ·rw [hb11]; try simp only [hb11, bb] at hL_10
  refine WK.condF rfl ?_
  refine WK.exit ?_
  refine QF.exit (hout_10 _ ?_)
  subst hL_10
  try dsimp only [cond_true, cond_false] at hR
  refine WK.sr mixed ?_
  refine GX.m rfl ?_
  generalize hc50 : F35_crossroadsref03_number s0x 32 = c50 at hR
  rcases c50 with _ | c50
  ·try dsimp only at hR
   cases hR
  try dsimp only at hR
  obtain ⟨c50a, c50b⟩ := c50; try dsimp only at hR
  refine GX.callp (r := .tup [.int .i64 c50a, .int .i64 c50b]) rfl rfl rfl (f35_ok s0x 32 _ hc50) rfl rfl ?_
  refine GX.m rfl ?_
  refine GX.q (.int .i64 c50a) ?_
  refine GX.q (.int .i64 c50b) ?_
  iterate 2 refine GX.m rfl ?_
  refine GX.done ?_
  refine WK.seq ?_
  refine WK.sr mixed ?_
  refine GX.m rfl ?_
  refine GX.q (.bool (decide (c50b = 0))) ?_
  refine GX.m rfl ?_
  rcases bool_two (decide (c50b = 0)) with hb12 | hb12
  ·rw [hb12]; first | replace hR := cond_f hb12 hR | (try simp only [hb12, bb] at hR)
   iterate 2 refine GX.m rfl ?_
   refine GX.q (.int .i64 (s0x.size : Int)) ?_
   iterate 2 refine GX.q (.bool (!decide (c50b = (s0x.size : Int)))) ?_
   refine GX.done ?_
   rcases bool_two (decide (c50b = (s0x.size : Int))) with hb13 | hb13
   ·rw [hb13]; first | replace hR := cond_f hb13 hR | (try simp only [hb13, bb] at hR)
    refine WK.condT rfl ?_
    refine WK.sr mixed ?_
    refine GX.q (.agg [.int .u32 0, .int .i64 0]) ?_
    refine GX.step0 (heap' := [(0, .box [.int .u32 0, .int .i64 0])]) (next' := 1) rfl rfl rfl rfl rfl ?_
    refine GX.m rfl ?_
    refine GX.done ?_
    refine WK.ret ?_
    obtain rfl := Option.some.inj hR
    exact RetQ.fr [] (.inr rfl) rfl rfl rfl rfl
   ·rw [hb13]; first | replace hR := cond_t hb13 hR | (try simp only [hb13, bb] at hR)
    refine WK.condF rfl ?_
    refine WK.skip ?_
    refine WK.sr mixed ?_
    iterate 2 refine GX.m rfl ?_
    refine GX.q (.agg [.int .u32 a4, .int .i64 c50a]) ?_
    refine GX.step (v' := .ptr 1 0) (heap' := [(0, .box [.int .u32 0, .int .i64 0]), (1, .box [.int .u32 0, .int .i64 0])]) (next' := 2) rfl rfl rfl rfl rfl rfl rfl ?_
    refine GX.step0 (heap' := [(0, .box [.int .u32 0, .int .i64 0]), (1, .box [.int .u32 a4, .int .i64 c50a])]) (next' := 2) rfl rfl rfl rfl rfl ?_
    refine GX.done ?_
    refine WK.seq ?_
    refine WK.sr mixed ?_
    refine GX.q (.agg [.int .u32 a4, .int .i64 c50a]) ?_
    generalize hc66 : F26_crossroadsref03_May (⟨a4, c50a⟩ : TPrefix) = c66 at hR
    try dsimp only at hR
    refine GX.callp (r := .bool c66) rfl rfl rfl (f26_ok (⟨a4, c50a⟩ : TPrefix) _ hc66) rfl rfl ?_
    refine GX.q (.bool (!c66)) ?_
    refine GX.done ?_
    rcases bool_two (c66) with hb14 | hb14
    ·rw [hb14]; first | replace hR := cond_f hb14 hR | (try simp only [hb14, bb] at hR)
     refine WK.condT rfl ?_
     refine WK.sr mixed ?_
     refine GX.q (.agg [.int .u32 0, .int .i64 0]) ?_
     refine GX.step0 (heap' := [(0, .box [.int .u32 0, .int .i64 0]), (1, .box [.int .u32 a4, .int .i64 c50a])]) (next' := 2) rfl rfl rfl rfl rfl ?_
     refine GX.m rfl ?_
     refine GX.done ?_
     refine WK.ret ?_
     obtain rfl := Option.some.inj hR
     exact RetQ.fr [] (.inr rfl) rfl rfl rfl rfl
    ·rw [hb14]; first | replace hR := cond_t hb14 hR | (try simp only [hb14, bb] at hR)
     refine WK.condF rfl ?_
     refine WK.skip ?_
     refine WK.sr mixed ?_
     refine GX.q (.agg [.int .u32 a4, .int .i64 c50a]) ?_
     refine GX.step0 (heap' := [(0, .box [.int .u32 a4, .int .i64 c50a]), (1, .box [.int .u32 a4, .int .i64 c50a])]) (next' := 2) rfl rfl rfl rfl rfl ?_
     refine GX.m rfl ?_
     refine GX.done ?_
     refine WK.ret ?_
     obtain rfl := Option.some.inj hR
     exact RetQ.fr [] (.inr rfl) rfl rfl rfl rfl
  ·rw [hb12]; first | replace hR := cond_t hb12 hR | (try simp only [hb12, bb] at hR)
   iterate 4 refine GX.skip rfl rfl ?_
   refine GX.q (.bool true) ?_
   refine GX.done ?_
   refine WK.condT rfl ?_
   refine WK.sr mixed ?_
   refine GX.q (.agg [.int .u32 0, .int .i64 0]) ?_
   refine GX.step0 (heap' := [(0, .box [.int .u32 0, .int .i64 0])]) (next' := 1) rfl rfl rfl rfl rfl ?_
   refine GX.m rfl ?_
   refine GX.done ?_
   refine WK.ret ?_
   obtain rfl := Option.some.inj hR
   exact RetQ.fr [] (.inr rfl) rfl rfl rfl rfl
 ·rw [hb11]; try simp only [hb11, bb] at hL_10
  refine WK.condT rfl ?_
  refine WK.skip ?_
  refine WK.seq ?_
  refine WK.blockK (fun _ hK15 => ?_)
  refine WK.sr mixed ?_
  refine GX.m rfl ?_
  generalize hc18 : F35_crossroadsref03_number s0x 255 = c18 at hL_10
  rcases c18 with _ | c18
  ·try dsimp only at hL_10
   subst hL_10
   try dsimp only at hR
   cases hR
  try dsimp only at hL_10
  obtain ⟨c18a, c18b⟩ := c18; try dsimp only at hL_10
  refine GX.callp (r := .tup [.int .i64 c18a, .int .i64 c18b]) rfl rfl rfl (f35_ok s0x 255 _ hc18) rfl rfl ?_
  refine GX.m rfl ?_
  refine GX.q (.int .i64 c18a) ?_
  refine GX.q (.int .i64 c18b) ?_
  iterate 2 refine GX.m rfl ?_
  refine GX.done ?_
  refine WK.sr mixed ?_
  refine GX.m rfl ?_
  refine GX.done ?_
  refine WK.seq ?_
  refine WK.sr mixed ?_
  refine GX.m rfl ?_
  refine GX.q (.bool (decide (i5 = 3))) ?_
  refine GX.done ?_
  rcases bool_two (decide (i5 = 3)) with hb16 | hb16
  ·rw [hb16]; try simp only [hb16, bb] at hL_10
   refine WK.condF rfl ?_
   refine WK.skip ?_
   refine WK.seq ?_
   refine WK.sr mixed ?_
   refine GX.m rfl ?_
   refine GX.q (.bool (decide (c18b = 0))) ?_
   refine GX.m rfl ?_
   rcases bool_two (decide (c18b = 0)) with hb17 | hb17
   ·rw [hb17]; try simp only [hb17, bb] at hL_10
    iterate 2 refine GX.m rfl ?_
    refine GX.q (.int .i64 (s0x.size : Int)) ?_
    iterate 2 refine GX.q (.bool (decide ((s0x.size : Int) ≤ c18b))) ?_
    refine GX.m rfl ?_
    rcases bool_two (decide ((s0x.size : Int) ≤ c18b)) with hb18 | hb18
    ·rw [hb18]; try simp only [hb18, bb] at hL_10
     iterate 2 refine GX.m rfl ?_
     rcases bool_two (decide ((0 : Int) ≤ c18b)) with hg19 | hg19
     ·simp only [hg19, bb] at hL_10
      try dsimp only at hL_10
      subst hL_10
      try dsimp only at hR
      cases hR
     simp only [hg19, bb] at hL_10
     have hg19_ := of_decide_eq_true hg19
     rcases bool_two (decide (c18b < (s0x.size : Int))) with hg20 | hg20
     ·simp only [hg20, bb] at hL_10
      try dsimp only at hL_10
      subst hL_10
      try dsimp only at hR
      cases hR
     simp only [hg20, bb] at hL_10
     have hg20_ := of_decide_eq_true hg20
     refine GX.pure (v' := .int .u8 (strAt s0x c18b)) rfl rfl rfl (core_idxSG (by omega) (by omega)) rfl ?_
     refine GX.m rfl ?_
     iterate 2 refine GX.q (.bool (!decide ((strAt s0x c18b) = 46))) ?_
     refine GX.done ?_
     rcases bool_two (decide ((strAt s0x c18b) = 46)) with hb21 | hb21
     ·rw [hb21]; try simp only [hb21, bb] at hL_10
      refine WK.condT rfl ?_
      refine WK.sr mixed ?_
      refine GX.q (.agg [.int .u32 0, .int .i64 0]) ?_
      refine GX.step0 (heap' := [(0, .box [.int .u32 0, .int .i64 0])]) (next' := 1) rfl rfl rfl rfl rfl ?_
      refine GX.m rfl ?_
      refine GX.done ?_
      refine WK.ret ?_
      refine QF.ret ?_
      refine QF.ret (hQ_10 _ _ ?_)
      subst hL_10
      try dsimp only at hR
      obtain rfl := Option.some.inj hR
      exact RetQ.fr [] (.inr rfl) rfl rfl rfl rfl
     ·rw [hb21]; try simp only [hb21, bb] at hL_10
      refine WK.condF rfl ?_
      refine WK.skip ?_
      refine WK.sr mixed ?_
      refine GX.m rfl ?_
      refine GX.q (.int .u32 (IntKind.u32.wrap (a4 * 256))) ?_
      refine GX.m rfl ?_
      refine GX.q (.int .u32 (IntKind.u32.wrap c18a)) ?_
      refine GX.q (.int .u32 (IntKind.u32.wrap ((IntKind.u32.wrap (a4 * 256)) + (IntKind.u32.wrap c18a)))) ?_
      refine GX.m rfl ?_
      refine GX.done ?_
      refine WK.regx mixed ?_
      iterate 2 refine GX.m rfl ?_
      refine GX.q (.int .i64 (IntKind.i64.wrap (c18b + 1))) ?_
      rcases bool_two (decide ((0 : Int) ≤ IntKind.i64.wrap (c18b + 1))) with hg22 | hg22
      ·simp only [hg22, bb] at hL_10
       try dsimp only at hL_10
       subst hL_10
       try dsimp only at hR
       cases hR
      simp only [hg22, bb] at hL_10
      have hg22_ := of_decide_eq_true hg22
      rcases bool_two (decide (IntKind.i64.wrap (c18b + 1) ≤ (s0x.size : Int))) with hg23 | hg23
      ·simp only [hg23, bb] at hL_10
       try dsimp only at hL_10
       subst hL_10
       try dsimp only at hR
       cases hR
      simp only [hg23, bb] at hL_10
      have hg23_ := of_decide_eq_true hg23
      refine GX.pure (v' := .str (s0x.extract (IntKind.i64.wrap (c18b + 1)).toNat s0x.size)) rfl rfl rfl (core_sliceSLo (by omega) (by omega)) rfl ?_
      refine GX.m rfl ?_
      refine GX.done ?_
      refine WK.nil (QF.normal (hK15 _ ?_))
      refine WK.regx mixed ?_
      refine GX.m rfl ?_
      refine GX.q (.int .i64 (IntKind.i64.wrap (i5 + 1))) ?_
      refine GX.m rfl ?_
      refine GX.done ?_
      refine WK.nil (QF.normal ?_)
      exact hagain_10 _ f10 ⟨[(0, .str (s0x.extract (IntKind.i64.wrap (c18b + 1)).toNat s0x.size)), (2, .ptr 0 0), (4, .int .u32 (IntKind.u32.wrap ((IntKind.u32.wrap (a4 * 256)) + (IntKind.u32.wrap c18a)))), (5, .int .i64 (IntKind.i64.wrap (i5 + 1)))], [(0, .box [.int .u32 0, .int .i64 0])], 1⟩ (Nat.lt_succ_self _) (Conv.keep [0] [] [0, 2, 4, 5] rfl rfl (viewE_cons rfl rfl (viewE_cons rfl rfl (viewE_cons rfl rfl (viewE_cons rfl rfl viewE_nil)))) rfl rfl) ⟨(s0x.extract (IntKind.i64.wrap (c18b + 1)).toNat s0x.size), (IntKind.u32.wrap ((IntKind.u32.wrap (a4 * 256)) + (IntKind.u32.wrap c18a))), (IntKind.i64.wrap (i5 + 1)), hL_10, rfl⟩
    ·rw [hb18]; try simp only [hb18, bb] at hL_10
     iterate 5 refine GX.skip rfl rfl ?_
     refine GX.q (.bool true) ?_
     refine GX.done ?_
     refine WK.condT rfl ?_
     refine WK.sr mixed ?_
     refine GX.q (.agg [.int .u32 0, .int .i64 0]) ?_
     refine GX.step0 (heap' := [(0, .box [.int .u32 0, .int .i64 0])]) (next' := 1) rfl rfl rfl rfl rfl ?_
     refine GX.m rfl ?_
     refine GX.done ?_
     refine WK.ret ?_
     refine QF.ret ?_
     refine QF.ret (hQ_10 _ _ ?_)
     subst hL_10
     try dsimp only at hR
     obtain rfl := Option.some.inj hR
     exact RetQ.fr [] (.inr rfl) rfl rfl rfl rfl
   ·rw [hb17]; try simp only [hb17, bb] at hL_10
    iterate 4 refine GX.skip rfl rfl ?_
    refine GX.q (.bool true) ?_
    refine GX.m rfl ?_
    iterate 5 refine GX.skip rfl rfl ?_
    refine GX.q (.bool true) ?_
    refine GX.done ?_
    refine WK.condT rfl ?_
    refine WK.sr mixed ?_
    refine GX.q (.agg [.int .u32 0, .int .i64 0]) ?_
    refine GX.step0 (heap' := [(0, .box [.int .u32 0, .int .i64 0])]) (next' := 1) rfl rfl rfl rfl rfl ?_
    refine GX.m rfl ?_
    refine GX.done ?_
    refine WK.ret ?_
    refine QF.ret ?_
    refine QF.ret (hQ_10 _ _ ?_)
    subst hL_10
    try dsimp only at hR
    obtain rfl := Option.some.inj hR
    exact RetQ.fr [] (.inr rfl) rfl rfl rfl rfl
  ·rw [hb16]; try simp only [hb16, bb] at hL_10
   refine WK.condT rfl ?_
   refine WK.regx mixed ?_
   refine GX.m rfl ?_
   refine GX.done ?_
   refine WK.seq ?_
   refine WK.sr mixed ?_
   refine GX.m rfl ?_
   refine GX.q (.bool (decide (c18b = 0))) ?_
   refine GX.m rfl ?_
   rcases bool_two (decide (c18b = 0)) with hb24 | hb24
   ·rw [hb24]; try simp only [hb24, bb] at hL_10
    iterate 2 refine GX.m rfl ?_
    refine GX.q (.int .i64 (s0x.size : Int)) ?_
    iterate 2 refine GX.q (.bool (decide ((s0x.size : Int) ≤ c18b))) ?_
    refine GX.m rfl ?_
    rcases bool_two (decide ((s0x.size : Int) ≤ c18b)) with hb25 | hb25
    ·rw [hb25]; try simp only [hb25, bb] at hL_10
     iterate 2 refine GX.m rfl ?_
     rcases bool_two (decide ((0 : Int) ≤ c18b)) with hg26 | hg26
     ·simp only [hg26, bb] at hL_10
      try dsimp only at hL_10
      subst hL_10
      try dsimp only at hR
      cases hR
     simp only [hg26, bb] at hL_10
     have hg26_ := of_decide_eq_true hg26
     rcases bool_two (decide (c18b < (s0x.size : Int))) with hg27 | hg27
     ·simp only [hg27, bb] at hL_10
      try dsimp only at hL_10
      subst hL_10
      try dsimp only at hR
      cases hR
     simp only [hg27, bb] at hL_10
     have hg27_ := of_decide_eq_true hg27
     refine GX.pure (v' := .int .u8 (strAt s0x c18b)) rfl rfl rfl (core_idxSG (by omega) (by omega)) rfl ?_
     refine GX.m rfl ?_
     iterate 2 refine GX.q (.bool (!decide ((strAt s0x c18b) = 47))) ?_
     refine GX.done ?_
     rcases bool_two (decide ((strAt s0x c18b) = 47)) with hb28 | hb28
     ·rw [hb28]; try simp only [hb28, bb] at hL_10
      refine WK.condT rfl ?_
      refine WK.sr mixed ?_
      refine GX.q (.agg [.int .u32 0, .int .i64 0]) ?_
      refine GX.step0 (heap' := [(0, .box [.int .u32 0, .int .i64 0])]) (next' := 1) rfl rfl rfl rfl rfl ?_
      refine GX.m rfl ?_
      refine GX.done ?_
      refine WK.ret ?_
      refine QF.ret ?_
      refine QF.ret (hQ_10 _ _ ?_)
      subst hL_10
      try dsimp only at hR
      obtain rfl := Option.some.inj hR
      exact RetQ.fr [] (.inr rfl) rfl rfl rfl rfl
     ·rw [hb28]; try simp only [hb28, bb] at hL_10
      refine WK.condF rfl ?_
      refine WK.skip ?_
      refine WK.sr mixed ?_
      refine GX.m rfl ?_
      refine GX.q (.int .u32 (IntKind.u32.wrap (a4 * 256))) ?_
      refine GX.m rfl ?_
      refine GX.q (.int .u32 (IntKind.u32.wrap c18a)) ?_
      refine GX.q (.int .u32 (IntKind.u32.wrap ((IntKind.u32.wrap (a4 * 256)) + (IntKind.u32.wrap c18a)))) ?_
      refine GX.m rfl ?_
      refine GX.done ?_
      refine WK.regx mixed ?_
      iterate 2 refine GX.m rfl ?_
      refine GX.q (.int .i64 (IntKind.i64.wrap (c18b + 1))) ?_
      rcases bool_two (decide ((0 : Int) ≤ IntKind.i64.wrap (c18b + 1))) with hg29 | hg29
      ·simp only [hg29, bb] at hL_10
       try dsimp only at hL_10
       subst hL_10
       try dsimp only at hR
       cases hR
      simp only [hg29, bb] at hL_10
      have hg29_ := of_decide_eq_true hg29
      rcases bool_two (decide (IntKind.i64.wrap (c18b + 1) ≤ (s0x.size : Int))) with hg30 | hg30
      ·simp only [hg30, bb] at hL_10
       try dsimp only at hL_10
       subst hL_10
       try dsimp only at hR
       cases hR
      simp only [hg30, bb] at hL_10
      have hg30_ := of_decide_eq_true hg30
      refine GX.pure (v' := .str (s0x.extract (IntKind.i64.wrap (c18b + 1)).toNat s0x.size)) rfl rfl rfl (core_sliceSLo (by omega) (by omega)) rfl ?_
      refine GX.m rfl ?_
      refine GX.done ?_
      refine WK.nil (QF.normal (hK15 _ ?_))
      refine WK.regx mixed ?_
      refine GX.m rfl ?_
      refine GX.q (.int .i64 (IntKind.i64.wrap (i5 + 1))) ?_
      refine GX.m rfl ?_
      refine GX.done ?_
      refine WK.nil (QF.normal ?_)
      exact hagain_10 _ f10 ⟨[(0, .str (s0x.extract (IntKind.i64.wrap (c18b + 1)).toNat s0x.size)), (2, .ptr 0 0), (4, .int .u32 (IntKind.u32.wrap ((IntKind.u32.wrap (a4 * 256)) + (IntKind.u32.wrap c18a)))), (5, .int .i64 (IntKind.i64.wrap (i5 + 1)))], [(0, .box [.int .u32 0, .int .i64 0])], 1⟩ (Nat.lt_succ_self _) (Conv.keep [0] [] [0, 2, 4, 5] rfl rfl (viewE_cons rfl rfl (viewE_cons rfl rfl (viewE_cons rfl rfl (viewE_cons rfl rfl viewE_nil)))) rfl rfl) ⟨(s0x.extract (IntKind.i64.wrap (c18b + 1)).toNat s0x.size), (IntKind.u32.wrap ((IntKind.u32.wrap (a4 * 256)) + (IntKind.u32.wrap c18a))), (IntKind.i64.wrap (i5 + 1)), hL_10, rfl⟩
    ·rw [hb25]; try simp only [hb25, bb] at hL_10
     iterate 5 refine GX.skip rfl rfl ?_
     refine GX.q (.bool true) ?_
     refine GX.done ?_
     refine WK.condT rfl ?_
     refine WK.sr mixed ?_
     refine GX.q (.agg [.int .u32 0, .int .i64 0]) ?_
     refine GX.step0 (heap' := [(0, .box [.int .u32 0, .int .i64 0])]) (next' := 1) rfl rfl rfl rfl rfl ?_
     refine GX.m rfl ?_
     refine GX.done ?_
     refine WK.ret ?_
     refine QF.ret ?_
     refine QF.ret (hQ_10 _ _ ?_)
     subst hL_10
     try dsimp only at hR
     obtain rfl := Option.some.inj hR
     exact RetQ.fr [] (.inr rfl) rfl rfl rfl rfl
   ·rw [hb24]; try simp only [hb24, bb] at hL_10
    iterate 4 refine GX.skip rfl rfl ?_
    refine GX.q (.bool true) ?_
    refine GX.m rfl ?_
    iterate 5 refine GX.skip rfl rfl ?_
    refine GX.q (.bool true) ?_
    refine GX.done ?_
    refine WK.condT rfl ?_
    refine WK.sr mixed ?_
    refine GX.q (.agg [.int .u32 0, .int .i64 0]) ?_
    refine GX.step0 (heap' := [(0, .box [.int .u32 0, .int .i64 0])]) (next' := 1) rfl rfl rfl rfl rfl ?_
    refine GX.m rfl ?_
    refine GX.done ?_
    refine WK.ret ?_
    refine QF.ret ?_
    refine QF.ret (hQ_10 _ _ ?_)
    subst hL_10
    try dsimp only at hR
    obtain rfl := Option.some.inj hR
    exact RetQ.fr [] (.inr rfl) rfl rfl rfl rfl

theorem f3_ok (s0 : ByteArray) (R : Bool) (hR : F3_crossroadslaw03_AddrParse s0 = some R) : FnOk Tryd.prog 3 [.str s0] [] 0 (.bool R) [] 0 := by
 refine FnOk.wk i3 rfl rfl ?_
 unfold F3_crossroadslaw03_AddrParse at hR
 try dsimp only at hR
 change WK _ _ _ [ac3] _ ⟨[(0, .str s0)], [], 0⟩
 unfold ac3
 refine WK.sr mixed ?_
 refine GX.m rfl ?_
 refine GX.done ?_
 refine WK.seq ?_
 refine WK.sr mixed ?_
 refine GX.m rfl ?_
 refine GX.q (.int .i64 (s0.size : Int)) ?_
 refine GX.q (.bool (decide (60 < (s0.size : Int)))) ?_
 refine GX.done ?_
 rcases bool_two (decide (60 < (s0.size : Int))) with hb1 | hb1
 ·rw [hb1]; first | replace hR := cond_f hb1 hR | (try simp only [hb1, bb] at hR)
  refine WK.condF rfl ?_
  refine WK.skip ?_
  refine WK.sr mixed ?_
  refine GX.m rfl ?_
  generalize hc13 : F10_addr_Parse s0 = c13 at hR
  rcases c13 with _ | c13
  ·try dsimp only at hR
   cases hR
  try dsimp only at hR
  obtain ⟨c13a, c13b⟩ := c13; try dsimp only at hR
  refine GX.callp (r := .tup [.agg [.int .u32 c13a.A, .int .i64 c13a.N], .int .i64 c13b]) rfl rfl rfl (f10_ok s0 _ hc13) rfl rfl ?_
  refine GX.m rfl ?_
  refine GX.q (.agg [.int .u32 c13a.A, .int .i64 c13a.N]) ?_
  refine GX.q (.int .i64 c13b) ?_
  refine GX.step (v' := .ptr 0 0) (heap' := [(0, .box [.int .u32 0, .int .i64 0])]) (next' := 1) rfl rfl rfl rfl rfl rfl rfl ?_
  refine GX.step0 (heap' := [(0, .box (TPrefix.c c13a))]) (next' := 1) rfl rfl rfl rfl rfl ?_
  refine GX.m rfl ?_
  refine GX.done ?_
  refine WK.sr mixed ?_
  refine GX.m rfl ?_
  generalize hc18 : F11_crossroadsref03_Parse s0 = c18 at hR
  rcases c18 with _ | c18
  ·try dsimp only at hR
   cases hR
  try dsimp only at hR
  obtain ⟨c18a, c18b⟩ := c18; try dsimp only at hR
  refine GX.callp (r := .tup [.agg [.int .u32 c18a.A, .int .i64 c18a.N], .int .i64 c18b]) rfl rfl rfl (f11_ok s0 _ hc18) rfl rfl ?_
  refine GX.m rfl ?_
  refine GX.q (.agg [.int .u32 c18a.A, .int .i64 c18a.N]) ?_
  refine GX.q (.int .i64 c18b) ?_
  refine GX.step (v' := .ptr 1 0) (heap' := [(0, .box (TPrefix.c c13a)), (1, .box [.int .u32 0, .int .i64 0])]) (next' := 2) rfl rfl rfl rfl rfl rfl rfl ?_
  refine GX.step0 (heap' := [(0, .box (TPrefix.c c13a)), (1, .box (TPrefix.c c18a))]) (next' := 2) rfl rfl rfl rfl rfl ?_
  refine GX.m rfl ?_
  refine GX.done ?_
  refine WK.sr mixed ?_
  generalize hc21 : F9_crossroadslaw03_alive = c21 at hR
  rcases c21 with _ | c21
  ·try dsimp only at hR
   cases hR
  try dsimp only at hR
  try dsimp only at hR
  refine GX.callp (r := .bool c21) rfl rfl rfl (f9_ok  _ hc21) rfl rfl ?_
  refine GX.m rfl ?_
  rcases bool_two (c21) with hb2 | hb2
  ·rw [hb2]; first | replace hR := cond_f hb2 hR | (try simp only [hb2, bb] at hR)
   iterate 3 refine GX.skip rfl rfl ?_
   refine GX.q (.bool false) ?_
   refine GX.m rfl ?_
   iterate 3 refine GX.skip rfl rfl ?_
   refine GX.q (.bool false) ?_
   refine GX.m rfl ?_
   iterate 8 refine GX.skip rfl rfl ?_
   refine GX.q (.bool false) ?_
   refine GX.m rfl ?_
   refine GX.done ?_
   refine WK.ret ?_
   obtain rfl := Option.some.inj hR
   exact RetQ.fr [] (.inr rfl) rfl rfl rfl rfl
  ·rw [hb2]; first | replace hR := cond_t hb2 hR | (try simp only [hb2, bb] at hR)
   refine GX.q (.agg (TPrefix.c c13a)) ?_
   refine GX.q (.agg (TPrefix.c c18a)) ?_
   iterate 2 refine GX.q (.bool (decide (c13a.A = c18a.A) && (decide (c13a.N = c18a.N) && true))) ?_
   refine GX.m rfl ?_
   rcases bool_two ((decide (c13a.A = c18a.A) && (decide (c13a.N = c18a.N) && true))) with hb3 | hb3
   ·rw [hb3]; try simp only [hb3, bb] at hR
    iterate 3 refine GX.skip rfl rfl ?_
    refine GX.q (.bool false) ?_
    refine GX.m rfl ?_
    iterate 8 refine GX.skip rfl rfl ?_
    refine GX.q (.bool false) ?_
    refine GX.m rfl ?_
    refine GX.done ?_
    refine WK.ret ?_
    obtain rfl := Option.some.inj hR
    exact RetQ.fr [] (.inr rfl) rfl rfl rfl rfl
   ·rw [hb3]; try simp only [hb3, bb] at hR
    iterate 2 refine GX.m rfl ?_
    iterate 2 refine GX.q (.bool (decide (c13b = c18b))) ?_
    refine GX.m rfl ?_
    rcases bool_two (decide (c13b = c18b)) with hb4 | hb4
    ·rw [hb4]; first | replace hR := cond_f hb4 hR | (try simp only [hb4, bb] at hR)
     iterate 8 refine GX.skip rfl rfl ?_
     refine GX.q (.bool false) ?_
     refine GX.m rfl ?_
     refine GX.done ?_
     refine WK.ret ?_
     obtain rfl := Option.some.inj hR
     exact RetQ.fr [] (.inr rfl) rfl rfl rfl rfl
    ·rw [hb4]; first | replace hR := cond_t hb4 hR | (try simp only [hb4, bb] at hR)
     refine GX.m rfl ?_
     refine GX.q (.bool (!decide (c13b = 0))) ?_
     refine GX.m rfl ?_
     rcases bool_two (decide (c13b = 0)) with hb5 | hb5
     ·rw [hb5]; first | replace hR := cond_f hb5 hR | (try simp only [hb5, bb] at hR)
      iterate 4 refine GX.skip rfl rfl ?_
      iterate 2 refine GX.q (.bool true) ?_
      refine GX.m rfl ?_
      refine GX.done ?_
      refine WK.ret ?_
      obtain rfl := Option.some.inj hR
      exact RetQ.fr [] (.inr rfl) rfl rfl rfl rfl
     ·rw [hb5]; first | replace hR := cond_t hb5 hR | (try simp only [hb5, bb] at hR)
      refine GX.q (.agg (TPrefix.c c13a)) ?_
      generalize hc37 : F12_addr_Text c13a = c37 at hR
      rcases c37 with _ | c37
      ·try dsimp only at hR
       cases hR
      try dsimp only at hR
      try dsimp only at hR
      refine GX.callp (r := .str c37) rfl rfl rfl (f12_ok c13a _ hc37) rfl rfl ?_
      refine GX.m rfl ?_
      iterate 3 refine GX.q (.bool (c37.toList == s0.toList)) ?_
      refine GX.m rfl ?_
      refine GX.done ?_
      refine WK.ret ?_
      obtain rfl := Option.some.inj hR
      exact RetQ.fr [] (.inr rfl) rfl rfl rfl rfl
 ·rw [hb1]; first | replace hR := cond_t hb1 hR | (try simp only [hb1, bb] at hR)
  refine WK.condT rfl ?_
  refine WK.sr mixed ?_
  generalize hc10 : F9_crossroadslaw03_alive = c10 at hR
  rcases c10 with _ | c10
  ·try dsimp only at hR
   cases hR
  try dsimp only at hR
  try dsimp only at hR
  refine GX.callp (r := .bool c10) rfl rfl rfl (f9_ok  _ hc10) rfl rfl ?_
  refine GX.m rfl ?_
  refine GX.done ?_
  refine WK.ret ?_
  obtain rfl := Option.some.inj hR
  exact RetQ.fr [] (.inr rfl) rfl rfl rfl rfl

end Go.Proofs.YtkdhongicibhbaaDoor.Abs
