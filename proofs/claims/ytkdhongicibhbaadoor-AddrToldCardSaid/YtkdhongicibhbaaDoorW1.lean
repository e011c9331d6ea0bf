/- The functions walked: each computes its Lean function (printed by this work's own program gen.py). -/
import Derived.Test.YtkdhongicibhbaaDoorSb
set_option linter.unusedVariables false
set_option linter.unusedSimpArgs false
set_option maxRecDepth 10000
set_option maxHeartbeats 4000000
namespace Go.Proofs.YtkdhongicibhbaaDoor.Abs
open Go

theorem f16_ok (n0 : Int) (R : Int) (hR : F16_addr_Mask n0 = R) : FnOk Tryd.prog 16 [.int .i64 n0] [] 0 (.int .u32 R) [] 0 := by
 refine FnOk.wk i16 rfl rfl ?_
 unfold F16_addr_Mask at hR
 change WK _ _ _ [ac16] _ ⟨[(0, .int .i64 n0)], [], 0⟩
 unfold ac16
 refine WK.sr mixed ?_
 refine GX.m rfl ?_
 refine GX.done ?_
 refine WK.sr mixed ?_
 refine GX.m rfl ?_
 refine GX.q (.int .i64 (max_ n0 0)) ?_
 refine GX.q (.int .i64 (min_ (max_ n0 0) 32)) ?_
 refine GX.m rfl ?_
 refine GX.done ?_
 refine WK.sr mixed ?_
 refine GX.m rfl ?_
 refine GX.q (.int .i64 (IntKind.i64.wrap (32 - (min_ (max_ n0 0) 32)))) ?_
 refine GX.shl rfl rfl rfl (by ((try simp only [decide_eq_true_eq, decide_eq_false_iff_not, Bool.not_eq_true, Bool.not_eq_false] at *); first | omega | (rw [wrap64_of (by omega) (by omega)]; omega) | (unfold min_ max_; (repeat' split) <;> first | omega | (rw [wrap64_of (by omega) (by omega)]; omega)))) ?_
 refine GX.q (.int .u32 (IntKind.u32.wrap (shl_ .u64 4294967295 (IntKind.i64.wrap (32 - (min_ (max_ n0 0) 32)))))) ?_
 refine GX.m rfl ?_
 refine GX.done ?_
 refine WK.ret ?_
 subst hR
 exact RetQ.fr [] (.inr rfl) rfl rfl rfl rfl

theorem f39_ok (n0 : Int) (R : Bool) (hR : F39_addr_isLong n0 = R) : FnOk Tryd.prog 39 [.int .i64 n0] [] 0 (.bool R) [] 0 := by
 refine FnOk.wk i39 rfl rfl ?_
 unfold F39_addr_isLong at hR
 change WK _ _ _ [ac39] _ ⟨[(0, .int .i64 n0)], [], 0⟩
 unfold ac39
 refine WK.sr mixed ?_
 refine GX.m rfl ?_
 refine GX.done ?_
 refine WK.sr mixed ?_
 refine GX.m rfl ?_
 refine GX.q (.bool (decide (0 ≤ n0))) ?_
 refine GX.m rfl ?_
 rcases bool_two (decide (0 ≤ n0)) with hb1 | hb1
 ·rw [hb1]; try simp only [hb1, bb] at hR
  iterate 2 refine GX.skip rfl rfl ?_
  refine GX.q (.bool false) ?_
  refine GX.m rfl ?_
  refine GX.done ?_
  refine WK.ret ?_
  subst hR
  exact RetQ.fr [] (.inr rfl) rfl rfl rfl rfl
 ·rw [hb1]; try simp only [hb1, bb] at hR
  refine GX.m rfl ?_
  iterate 2 refine GX.q (.bool (decide (n0 ≤ 32))) ?_
  refine GX.m rfl ?_
  refine GX.done ?_
  refine WK.ret ?_
  subst hR
  exact RetQ.fr [] (.inr rfl) rfl rfl rfl rfl

theorem f17_ok (p0 : TPrefix) (R : Bool) (hR : F17_addr_May p0 = R) : FnOk Tryd.prog 17 [.agg (TPrefix.c p0)] [] 0 (.bool R) [] 0 := by
 refine FnOk.wk i17 rfl rfl ?_
 unfold F17_addr_May at hR
 change WK _ _ _ [ac17] _ ⟨[(0, .agg (TPrefix.c p0))], [], 0⟩
 unfold ac17
 refine WK.sr mixed ?_
 refine GX.step (v' := .ptr 0 0) (heap' := [(0, .box (TPrefix.c p0))]) (next' := 1) rfl rfl rfl rfl rfl rfl rfl ?_
 refine GX.m rfl ?_
 refine GX.done ?_
 refine WK.seq ?_
 refine WK.drawn mixed ?_
 refine RD.q (.ptr 0 1) ?_
 refine RD.q (.int .i64 p0.N) ?_
 generalize hc5 : F39_addr_isLong p0.N = c5 at hR
 try dsimp only at hR
 refine RD.callp (r := .bool c5) rfl rfl rfl (f39_ok p0.N _ hc5) rfl rfl ?_
 refine RD.m rfl ?_
 rcases bool_two (c5) with hb1 | hb1
 ·rw [hb1]; try simp only [hb1, bb] at hR
  iterate 7 refine RD.skip rfl rfl ?_
  refine RD.q (.bool false) ?_
  refine RD.m rfl ?_
  refine RD.done rfl ?_
  refine WK.ret ?_
  subst hR
  exact RetQ.fr [] (.inr rfl) rfl rfl rfl rfl
 ·rw [hb1]; try simp only [hb1, bb] at hR
  refine RD.q (.ptr 0 0) ?_
  refine RD.q (.int .u32 p0.A) ?_
  refine RD.q (.ptr 0 1) ?_
  refine RD.q (.int .i64 p0.N) ?_
  generalize hc11 : F16_addr_Mask p0.N = c11 at hR
  try dsimp only at hR
  refine RD.callp (r := .int .u32 c11) rfl rfl rfl (f16_ok p0.N _ hc11) rfl rfl ?_
  refine RD.q (.int .u32 (bit_andNot .u32 p0.A c11)) ?_
  iterate 2 refine RD.q (.bool (decide (bit_andNot .u32 p0.A c11 = 0))) ?_
  refine RD.m rfl ?_
  refine RD.done rfl ?_
  refine WK.ret ?_
  subst hR
  exact RetQ.fr [] (.inr rfl) rfl rfl rfl rfl

theorem f43_ok (c0 : Int) (R : Bool) (hR : F43_addr_number_1 c0 = R) : FnOk Tryd.prog 43 [.int .i32 c0] [] 0 (.bool R) [] 0 := by
 refine FnOk.wk i43 rfl rfl ?_
 unfold F43_addr_number_1 at hR
 change WK _ _ _ [ac43] _ ⟨[(0, .int .i32 c0)], [], 0⟩
 unfold ac43
 refine WK.sr mixed ?_
 refine GX.m rfl ?_
 refine GX.done ?_
 refine WK.sr mixed ?_
 refine GX.m rfl ?_
 refine GX.q (.bool (decide (c0 < 48))) ?_
 refine GX.m rfl ?_
 rcases bool_two (decide (c0 < 48)) with hb1 | hb1
 ·rw [hb1]; try simp only [hb1, bb] at hR
  refine GX.m rfl ?_
  iterate 2 refine GX.q (.bool (decide (57 < c0))) ?_
  refine GX.m rfl ?_
  refine GX.done ?_
  refine WK.ret ?_
  subst hR
  exact RetQ.fr [] (.inr rfl) rfl rfl rfl rfl
 ·rw [hb1]; try simp only [hb1, bb] at hR
  iterate 2 refine GX.skip rfl rfl ?_
  refine GX.q (.bool true) ?_
  refine GX.m rfl ?_
  refine GX.done ?_
  refine WK.ret ?_
  subst hR
  exact RetQ.fr [] (.inr rfl) rfl rfl rfl rfl

theorem f34_ok (s0 : ByteArray) (most1 : Int) (R : Int × Bool) (hR : F34_addr_number s0 most1 = some R) : FnOk Tryd.prog 34 [.str s0, .int .i64 most1] [] 0 (.tup [.int .i64 R.1, .bool R.2]) [] 0 := by
 refine FnOk.wk i34 rfl rfl ?_
 unfold F34_addr_number at hR
 try dsimp only at hR
 change WK _ _ _ [ac34] _ ⟨[(0, .str s0), (1, .int .i64 most1)], [], 0⟩
 unfold ac34
 refine WK.sr mixed ?_
 iterate 2 refine GX.m rfl ?_
 refine GX.done ?_
 refine WK.sr mixed ?_
 refine GX.m rfl ?_
 refine GX.done ?_
 refine WK.seq ?_
 refine WK.sr mixed ?_
 refine GX.m rfl ?_
 refine GX.q (.bool (s0.toList == (bstr []).toList)) ?_
 refine GX.m rfl ?_
 rcases bool_two ((s0.toList == (bstr []).toList)) with hb1 | hb1
 ·rw [hb1]; try simp only [hb1, bb] at hR
  refine GX.m rfl ?_
  refine GX.q (.int .i64 (s0.size : Int)) ?_
  iterate 2 refine GX.q (.bool (decide (3 < (s0.size : Int)))) ?_
  refine GX.m rfl ?_
  rcases bool_two (decide (3 < (s0.size : Int))) with hb2 | hb2
  ·rw [hb2]; first | replace hR := cond_f hb2 hR | (try simp only [hb2, bb] at hR)
   refine GX.m rfl ?_
   refine GX.q (.int .i64 (s0.size : Int)) ?_
   refine GX.q (.bool (decide (1 < (s0.size : Int)))) ?_
   refine GX.m rfl ?_
   rcases bool_two (decide (1 < (s0.size : Int))) with hb3 | hb3
   ·rw [hb3]; first | replace hR := cond_f hb3 hR | (try simp only [hb3, bb] at hR)
    iterate 3 refine GX.skip rfl rfl ?_
    iterate 2 refine GX.q (.bool false) ?_
    iterate 3 refine GX.m rfl ?_
    generalize hc29 : containsFuncS s0 (fun y0 => F43_addr_number_1 y0) = c29 at hR
    try dsimp only at hR
    refine GX.callp (r := .bool c29) rfl rfl rfl (f44_ok s0 43 [] [] (fun y0 => F43_addr_number_1 y0) ⟨rfl, rfl⟩ (fun y0 _ hr => f43_ok y0 _ hr) _ hc29) rfl rfl ?_
    refine GX.q (.bool c29) ?_
    refine GX.done ?_
    rcases bool_two (c29) with hb4 | hb4
    ·rw [hb4]; first | replace hR := cond_f hb4 hR | (try simp only [hb4, bb] at hR)
     refine WK.condF rfl ?_
     refine WK.skip ?_
     refine WK.sr mixed ?_
     refine GX.m rfl ?_
     generalize hc33 : atoiO s0 = c33 at hR
     rcases c33 with _ | c33
     ·try dsimp only at hR
      cases hR
     try dsimp only at hR
     obtain ⟨c33a, c33b⟩ := c33; try dsimp only at hR
     refine GX.callp (r := .tup [.int .i64 c33a, .nili]) rfl rfl rfl (f45_ok s0 _ hc33) rfl rfl ?_
     refine GX.m rfl ?_
     refine GX.q (.int .i64 c33a) ?_
     refine GX.q (.nili) ?_
     iterate 2 refine GX.m rfl ?_
     refine GX.done ?_
     refine WK.sr mixed ?_
     iterate 3 refine GX.m rfl ?_
     refine GX.q (.bool (decide (c33a ≤ most1))) ?_
     iterate 2 refine GX.m rfl ?_
     refine GX.done ?_
     refine WK.ret ?_
     obtain rfl := Option.some.inj hR
     exact RetQ.fr [] (.inr rfl) rfl rfl rfl rfl
    ·rw [hb4]; first | replace hR := cond_t hb4 hR | (try simp only [hb4, bb] at hR)
     refine WK.condT rfl ?_
     refine WK.sr mixed ?_
     iterate 2 refine GX.m rfl ?_
     refine GX.done ?_
     refine WK.ret ?_
     obtain rfl := Option.some.inj hR
     exact RetQ.fr [] (.inr rfl) rfl rfl rfl rfl
   ·rw [hb3]; first | replace hR := cond_t hb3 hR | (try simp only [hb3, bb] at hR)
    refine GX.m rfl ?_
    rcases bool_two (decide ((0 : Int) < (s0.size : Int))) with hg5 | hg5
    ·simp only [hg5, bb] at hR
     try dsimp only at hR
     cases hR
    simp only [hg5, bb] at hR
    have hg5_ := of_decide_eq_true hg5
    refine GX.pure (v' := .int .u8 (strAt s0 0)) rfl rfl rfl (core_idxSG (by omega) (by omega)) rfl ?_
    iterate 3 refine GX.q (.bool (decide ((strAt s0 0) = 48))) ?_
    refine GX.m rfl ?_
    rcases bool_two (decide ((strAt s0 0) = 48)) with hb6 | hb6
    ·rw [hb6]; first | replace hR := cond_f hb6 hR | (try simp only [hb6, bb] at hR)
     iterate 2 refine GX.m rfl ?_
     generalize hc29 : containsFuncS s0 (fun y0 => F43_addr_number_1 y0) = c29 at hR
     try dsimp only at hR
     refine GX.callp (r := .bool c29) rfl rfl rfl (f44_ok s0 43 [] [] (fun y0 => F43_addr_number_1 y0) ⟨rfl, rfl⟩ (fun y0 _ hr => f43_ok y0 _ hr) _ hc29) rfl rfl ?_
     refine GX.q (.bool c29) ?_
     refine GX.done ?_
     rcases bool_two (c29) with hb7 | hb7
     ·rw [hb7]; first | replace hR := cond_f hb7 hR | (try simp only [hb7, bb] at hR)
      refine WK.condF rfl ?_
      refine WK.skip ?_
      refine WK.sr mixed ?_
      refine GX.m rfl ?_
      generalize hc33 : atoiO s0 = c33 at hR
      rcases c33 with _ | c33
      ·try dsimp only at hR
       cases hR
      try dsimp only at hR
      obtain ⟨c33a, c33b⟩ := c33; try dsimp only at hR
      refine GX.callp (r := .tup [.int .i64 c33a, .nili]) rfl rfl rfl (f45_ok s0 _ hc33) rfl rfl ?_
      refine GX.m rfl ?_
      refine GX.q (.int .i64 c33a) ?_
      refine GX.q (.nili) ?_
      iterate 2 refine GX.m rfl ?_
      refine GX.done ?_
      refine WK.sr mixed ?_
      iterate 3 refine GX.m rfl ?_
      refine GX.q (.bool (decide (c33a ≤ most1))) ?_
      iterate 2 refine GX.m rfl ?_
      refine GX.done ?_
      refine WK.ret ?_
      obtain rfl := Option.some.inj hR
      exact RetQ.fr [] (.inr rfl) rfl rfl rfl rfl
     ·rw [hb7]; first | replace hR := cond_t hb7 hR | (try simp only [hb7, bb] at hR)
      refine WK.condT rfl ?_
      refine WK.sr mixed ?_
      iterate 2 refine GX.m rfl ?_
      refine GX.done ?_
      refine WK.ret ?_
      obtain rfl := Option.some.inj hR
      exact RetQ.fr [] (.inr rfl) rfl rfl rfl rfl
    ·rw [hb6]; first | replace hR := cond_t hb6 hR | (try simp only [hb6, bb] at hR)
     iterate 3 refine GX.skip rfl rfl ?_
     refine GX.q (.bool true) ?_
     refine GX.done ?_
     refine WK.condT rfl ?_
     refine WK.sr mixed ?_
     iterate 2 refine GX.m rfl ?_
     refine GX.done ?_
     refine WK.ret ?_
     obtain rfl := Option.some.inj hR
     exact RetQ.fr [] (.inr rfl) rfl rfl rfl rfl
  ·rw [hb2]; first | replace hR := cond_t hb2 hR | (try simp only [hb2, bb] at hR)
   iterate 8 refine GX.skip rfl rfl ?_
   refine GX.q (.bool true) ?_
   refine GX.m rfl ?_
   iterate 3 refine GX.skip rfl rfl ?_
   refine GX.q (.bool true) ?_
   refine GX.done ?_
   refine WK.condT rfl ?_
   refine WK.sr mixed ?_
   iterate 2 refine GX.m rfl ?_
   refine GX.done ?_
   refine WK.ret ?_
   obtain rfl := Option.some.inj hR
   exact RetQ.fr [] (.inr rfl) rfl rfl rfl rfl
 ·rw [hb1]; try simp only [hb1, bb] at hR
  iterate 3 refine GX.skip rfl rfl ?_
  refine GX.q (.bool true) ?_
  refine GX.m rfl ?_
  iterate 8 refine GX.skip rfl rfl ?_
  refine GX.q (.bool true) ?_
  refine GX.m rfl ?_
  iterate 3 refine GX.skip rfl rfl ?_
  refine GX.q (.bool true) ?_
  refine GX.done ?_
  refine WK.condT rfl ?_
  refine WK.sr mixed ?_
  iterate 2 refine GX.m rfl ?_
  refine GX.done ?_
  refine WK.ret ?_
  obtain rfl := Option.some.inj hR
  exact RetQ.fr [] (.inr rfl) rfl rfl rfl rfl

theorem f10_ok (s0 : ByteArray) (R : TPrefix × Int) (hR : F10_addr_Parse s0 = some R) : FnOk Tryd.prog 10 [.str s0] [] 0 (.tup [.agg (TPrefix.c R.1), .int .i64 R.2]) [] 0 := by
 refine FnOk.wk i10 rfl rfl ?_
 unfold F10_addr_Parse at hR
 try dsimp only at hR
 change WK _ _ _ [ac10] _ ⟨[(0, .str s0)], [], 0⟩
 unfold ac10
 refine WK.sr mixed ?_
 refine GX.step (v' := .ptr 0 0) (heap' := [(0, .box [.int .u32 0, .int .i64 0])]) (next' := 1) rfl rfl rfl rfl rfl rfl rfl ?_
 refine GX.m rfl ?_
 refine GX.done ?_
 refine WK.sr mixed ?_
 refine GX.m rfl ?_
 generalize hc17 : cutO s0 (bstr [47]) = c17 at hR
 rcases c17 with _ | c17
 ·try dsimp only at hR
  cases hR
 try dsimp only at hR
 obtain ⟨c17a, c17b, c17c⟩ := c17; try dsimp only at hR
 refine GX.callp (r := .tup [.str c17a, .str c17b, .bool c17c]) rfl rfl rfl (f32_ok s0 (bstr [47]) _ hc17) rfl rfl ?_
 refine GX.m rfl ?_
 refine GX.q (.str c17a) ?_
 refine GX.q (.str c17b) ?_
 refine GX.q (.bool c17c) ?_
 iterate 3 refine GX.m rfl ?_
 refine GX.done ?_
 refine WK.sr mixed ?_
 refine GX.m rfl ?_
 generalize hc22 : splitO c17a (bstr [46]) = c22 at hR
 rcases c22 with _ | c22
 ·try dsimp only at hR
  cases hR
 try dsimp only at hR
 try dsimp only at hR
 refine GX.callp (r := .ro 1 (c22.map c_str)) rfl rfl rfl (f33_ok c17a (bstr [46]) _ hc22) rfl rfl ?_
 refine GX.m rfl ?_
 refine GX.done ?_
 refine WK.sr mixed ?_
 refine GX.m rfl ?_
 generalize hc25 : F34_addr_number c17b 32 = c25 at hR
 rcases c25 with _ | c25
 ·try dsimp only at hR
  cases hR
 try dsimp only at hR
 obtain ⟨c25a, c25b⟩ := c25; try dsimp only at hR
 refine GX.callp (r := .tup [.int .i64 c25a, .bool c25b]) rfl rfl rfl (f34_ok c17b 32 _ hc25) rfl rfl ?_
 refine GX.m rfl ?_
 refine GX.q (.int .i64 c25a) ?_
 refine GX.q (.bool c25b) ?_
 iterate 2 refine GX.m rfl ?_
 refine GX.done ?_
 refine WK.seq ?_
 refine WK.sr mixed ?_
 refine GX.m rfl ?_
 refine GX.q (.bool (!c17c)) ?_
 refine GX.m rfl ?_
 rcases bool_two (c17c) with hb1 | hb1
 ·rw [hb1]; first | replace hR := cond_f hb1 hR | (try simp only [hb1, bb] at hR)
  iterate 2 refine GX.skip rfl rfl ?_
  refine GX.q (.bool true) ?_
  refine GX.m rfl ?_
  iterate 3 refine GX.skip rfl rfl ?_
  refine GX.q (.bool true) ?_
  refine GX.done ?_
  refine WK.condT rfl ?_
  refine WK.sr mixed ?_
  refine GX.q (.agg [.int .u32 0, .int .i64 0]) ?_
  refine GX.step0 (heap' := [(0, .box [.int .u32 0, .int .i64 0])]) (next' := 1) rfl rfl rfl rfl rfl ?_
  refine GX.m rfl ?_
  refine GX.done ?_
  refine WK.ret ?_
  obtain rfl := Option.some.inj hR
  exact RetQ.fr [] (.inr rfl) rfl rfl rfl rfl
 ·rw [hb1]; first | replace hR := cond_t hb1 hR | (try simp only [hb1, bb] at hR)
  refine GX.m rfl ?_
  iterate 2 refine GX.q (.bool (!c25b)) ?_
  refine GX.m rfl ?_
  rcases bool_two (c25b) with hb2 | hb2
  ·rw [hb2]; first | replace hR := cond_f hb2 hR | (try simp only [hb2, bb] at hR)
   iterate 3 refine GX.skip rfl rfl ?_
   refine GX.q (.bool true) ?_
   refine GX.done ?_
   refine WK.condT rfl ?_
   refine WK.sr mixed ?_
   refine GX.q (.agg [.int .u32 0, .int .i64 0]) ?_
   refine GX.step0 (heap' := [(0, .box [.int .u32 0, .int .i64 0])]) (next' := 1) rfl rfl rfl rfl rfl ?_
   refine GX.m rfl ?_
   refine GX.done ?_
   refine WK.ret ?_
   obtain rfl := Option.some.inj hR
   exact RetQ.fr [] (.inr rfl) rfl rfl rfl rfl
  ·rw [hb2]; first | replace hR := cond_t hb2 hR | (try simp only [hb2, bb] at hR)
   refine GX.m rfl ?_
   refine GX.pure (v' := .int .i64 (c22.length : Int)) rfl rfl rfl rfl (len_map _ _) ?_
   iterate 2 refine GX.q (.bool (!decide ((c22.length : Int) = 4))) ?_
   refine GX.done ?_
   rcases bool_two (decide ((c22.length : Int) = 4)) with hb3 | hb3
   ·rw [hb3]; first | replace hR := cond_f hb3 hR | (try simp only [hb3, bb] at hR)
    refine WK.condT rfl ?_
    refine WK.sr mixed ?_
    refine GX.q (.agg [.int .u32 0, .int .i64 0]) ?_
    refine GX.step0 (heap' := [(0, .box [.int .u32 0, .int .i64 0])]) (next' := 1) rfl rfl rfl rfl rfl ?_
    refine GX.m rfl ?_
    refine GX.done ?_
    refine WK.ret ?_
    obtain rfl := Option.some.inj hR
    exact RetQ.fr [] (.inr rfl) rfl rfl rfl rfl
   ·rw [hb3]; first | replace hR := cond_t hb3 hR | (try simp only [hb3, bb] at hR)
    refine WK.condF rfl ?_
    refine WK.skip ?_
    refine WK.sr mixed ?_
    refine GX.m rfl ?_
    refine GX.q (.agg [.int .u32 0, .int .i64 c25a]) ?_
    refine GX.step (v' := .ptr 1 0) (heap' := [(0, .box [.int .u32 0, .int .i64 0]), (1, .box [.int .u32 0, .int .i64 0])]) (next' := 2) rfl rfl rfl rfl rfl rfl rfl ?_
    refine GX.step0 (heap' := [(0, .box [.int .u32 0, .int .i64 0]), (1, .box [.int .u32 0, .int .i64 c25a])]) (next' := 2) rfl rfl rfl rfl rfl ?_
    refine GX.done ?_
    refine WK.seq ?_
    refine WK.sr mixed ?_
    refine GX.m rfl ?_
    refine GX.pure (v' := .int .i64 (c22.length : Int)) rfl rfl rfl rfl (len_map _ _) ?_
    refine GX.m rfl ?_
    refine GX.done ?_
    refine WK.len (t := 22) rfl (by simp) (fun hlen_9 => ?_)
    rw [List.length_map] at hlen_9
    generalize hZ_9 : F10_addr_Parse_l1 (⟨0, c25a⟩ : TPrefix) c22 = Z_9 at hR
    refine WK.forK (fun k s => ∃ (i44 : Nat) (p10 : TPrefix), i44 ≤ c22.length ∧ k = c22.length - i44 ∧ F10_addr_Parse_l1 p10 (c22.drop i44) = Z_9 ∧ s = ⟨[(2, .ptr 0 0), (10, .ptr 1 0), (42, .ro 1 (c22.map c_str)), (43, .int .i64 (c22.length : Int)), (44, .int .i64 (i44 : Int))], [(0, .box [.int .u32 0, .int .i64 0]), (1, .box (TPrefix.c p10))], 2⟩) c22.length ⟨⟨[(2, .ptr 0 0), (10, .ptr 1 0), (42, .ro 1 (c22.map c_str)), (43, .int .i64 (c22.length : Int)), (44, .int .i64 (0 : Int))], [(0, .box [.int .u32 0, .int .i64 0]), (1, .box (TPrefix.c (⟨0, c25a⟩ : TPrefix)))], 2⟩, Conv.keep [0, 1] [] [2, 10, 42, 43, 44] rfl rfl (viewE_cons rfl rfl (viewE_cons rfl rfl (viewE_cons rfl rfl (viewE_cons rfl rfl (viewE_cons rfl rfl viewE_nil))))) rfl rfl, 0, (⟨0, c25a⟩ : TPrefix), (by omega), rfl, hZ_9, rfl⟩ ?_
    rintro _ _ ⟨i44, p10, hi_9, rfl, hL_9, rfl⟩ again_9 out_9 Q_9 hagain_9 hout_9 hQ_9
    refine WK.sr mixed ?_
    refine GX.q (.bool (decide ((i44 : Int) < (c22.length : Int)))) ?_
    refine GX.done ?_
    refine WK.seq ?_
    rcases bool_two (decide ((i44 : Int) < (c22.length : Int))) with hb10 | hb10
    ·rw [hb10]
     rw [drop_end hb10, F10_addr_Parse_l1] at hL_9
     refine WK.condF rfl ?_
     refine WK.exit ?_
     refine QF.exit (hout_9 _ ?_)
     subst hL_9
     try dsimp only [cond_true, cond_false] at hR
     refine WK.seq ?_
     refine WK.sr mixed ?_
     refine GX.q (.agg (TPrefix.c p10)) ?_
     generalize hc65 : F17_addr_May p10 = c65 at hR
     try dsimp only at hR
     refine GX.callp (r := .bool c65) rfl rfl rfl (f17_ok p10 _ hc65) rfl rfl ?_
     refine GX.q (.bool (!c65)) ?_
     refine GX.done ?_
     rcases bool_two (c65) with hb11 | hb11
     ·rw [hb11]; first | replace hR := cond_f hb11 hR | (try simp only [hb11, bb] at hR)
      refine WK.condT rfl ?_
      refine WK.sr mixed ?_
      refine GX.q (.agg [.int .u32 0, .int .i64 0]) ?_
      refine GX.step0 (heap' := [(0, .box [.int .u32 0, .int .i64 0]), (1, .box (TPrefix.c p10))]) (next' := 2) rfl rfl rfl rfl rfl ?_
      refine GX.m rfl ?_
      refine GX.done ?_
      refine WK.ret ?_
      obtain rfl := Option.some.inj hR
      exact RetQ.fr [] (.inr rfl) rfl rfl rfl rfl
     ·rw [hb11]; first | replace hR := cond_t hb11 hR | (try simp only [hb11, bb] at hR)
      refine WK.condF rfl ?_
      refine WK.skip ?_
      refine WK.sr mixed ?_
      refine GX.q (.agg (TPrefix.c p10)) ?_
      refine GX.step0 (heap' := [(0, .box (TPrefix.c p10)), (1, .box (TPrefix.c p10))]) (next' := 2) rfl rfl rfl rfl rfl ?_
      refine GX.m rfl ?_
      refine GX.done ?_
      refine WK.ret ?_
      obtain rfl := Option.some.inj hR
      exact RetQ.fr [] (.inr rfl) rfl rfl rfl rfl
    ·rw [hb10]
     obtain ⟨x44, hx9, hd9, hlt9⟩ := drop_more hb10
     rw [hd9, F10_addr_Parse_l1] at hL_9
     refine WK.condT rfl ?_
     refine WK.skip ?_
     refine WK.seq ?_
     refine WK.blockK (fun _ hK12 => ?_)
     refine WK.sr mixed ?_
     refine GX.idxT (c := c_str) (x := x44) rfl rfl rfl (Int.natCast_nonneg _) hx9 ?_
     refine GX.q (.str x44) ?_
     refine GX.m rfl ?_
     refine GX.done ?_
     refine WK.sr mixed ?_
     refine GX.m rfl ?_
     generalize hc50 : F34_addr_number x44 255 = c50 at hL_9
     rcases c50 with _ | c50
     ·try dsimp only at hL_9
      subst hL_9
      try dsimp only at hR
      cases hR
     try dsimp only at hL_9
     obtain ⟨c50a, c50b⟩ := c50; try dsimp only at hL_9
     refine GX.callp (r := .tup [.int .i64 c50a, .bool c50b]) rfl rfl rfl (f34_ok x44 255 _ hc50) rfl rfl ?_
     refine GX.m rfl ?_
     refine GX.q (.int .i64 c50a) ?_
     refine GX.q (.bool c50b) ?_
     iterate 2 refine GX.m rfl ?_
     refine GX.done ?_
     refine WK.seq ?_
     refine WK.sr mixed ?_
     refine GX.m rfl ?_
     refine GX.q (.bool (!c50b)) ?_
     refine GX.done ?_
     rcases bool_two (c50b) with hb13 | hb13
     ·rw [hb13]; try simp only [hb13, bb] at hL_9
      refine WK.condT rfl ?_
      refine WK.sr mixed ?_
      refine GX.q (.agg [.int .u32 0, .int .i64 0]) ?_
      refine GX.step0 (heap' := [(0, .box [.int .u32 0, .int .i64 0]), (1, .box (TPrefix.c p10))]) (next' := 2) rfl rfl rfl rfl rfl ?_
      refine GX.m rfl ?_
      refine GX.done ?_
      refine WK.ret ?_
      refine QF.ret ?_
      refine QF.ret (hQ_9 _ _ ?_)
      subst hL_9
      try dsimp only at hR
      obtain rfl := Option.some.inj hR
      exact RetQ.fr [] (.inr rfl) rfl rfl rfl rfl
     ·rw [hb13]; try simp only [hb13, bb] at hL_9
      refine WK.condF rfl ?_
      refine WK.skip ?_
      refine WK.regx mixed ?_
      refine GX.q (.ptr 1 0) ?_
      refine GX.q (.int .u32 p10.A) ?_
      refine GX.q (.int .u32 (IntKind.u32.wrap (p10.A * 2 ^ 8))) ?_
      refine GX.m rfl ?_
      refine GX.q (.int .u32 (IntKind.u32.wrap c50a)) ?_
      refine GX.q (.int .u32 (bit_or .u32 (IntKind.u32.wrap (p10.A * 2 ^ 8)) (IntKind.u32.wrap c50a))) ?_
      refine GX.q (.ptr 1 0) ?_
      refine GX.step0 (heap' := [(0, .box [.int .u32 0, .int .i64 0]), (1, .box [.int .u32 (bit_or .u32 (IntKind.u32.wrap (p10.A * 2 ^ 8)) (IntKind.u32.wrap c50a)), .int .i64 p10.N])]) (next' := 2) rfl rfl rfl rfl rfl ?_
      refine GX.done ?_
      refine WK.nil (QF.normal (hK12 _ ?_))
      refine WK.regx mixed ?_
      refine GX.pure (v' := .int .i64 ((i44 + 1 : Nat) : Int)) rfl rfl rfl rfl (congrArg (PVal.int .i64) (wrap_up hlt9 hlen_9)) ?_
      refine GX.m rfl ?_
      refine GX.done ?_
      refine WK.nil (QF.normal ?_)
      exact hagain_9 _ (c22.length - (i44 + 1)) ⟨[(2, .ptr 0 0), (10, .ptr 1 0), (42, .ro 1 (c22.map c_str)), (43, .int .i64 (c22.length : Int)), (44, .int .i64 ((i44 + 1) : Int))], [(0, .box [.int .u32 0, .int .i64 0]), (1, .box (TPrefix.c (⟨bit_or .u32 (IntKind.u32.wrap (p10.A * 2 ^ 8)) (IntKind.u32.wrap c50a), p10.N⟩ : TPrefix)))], 2⟩ (by omega) (Conv.keep [0, 1] [] [2, 10, 42, 43, 44] rfl rfl (viewE_cons rfl rfl (viewE_cons rfl rfl (viewE_cons rfl rfl (viewE_cons rfl rfl (viewE_cons rfl rfl viewE_nil))))) rfl rfl) ⟨i44 + 1, (⟨bit_or .u32 (IntKind.u32.wrap (p10.A * 2 ^ 8)) (IntKind.u32.wrap c50a), p10.N⟩ : TPrefix), (by omega), rfl, hL_9, rfl⟩

theorem f12_ok (p0 : TPrefix) (R : ByteArray) (hR : F12_addr_Text p0 = some R) : FnOk Tryd.prog 12 [.agg (TPrefix.c p0)] [] 0 (.str R) [] 0 := by
 refine FnOk.wk i12 rfl rfl ?_
 unfold F12_addr_Text at hR
 try dsimp only at hR
 change WK _ _ _ [ac12] _ ⟨[(0, .agg (TPrefix.c p0))], [], 0⟩
 unfold ac12
 refine WK.sr mixed ?_
 refine GX.step (v' := .ptr 0 0) (heap' := [(0, .box (TPrefix.c p0))]) (next' := 1) rfl rfl rfl rfl rfl rfl rfl ?_
 refine GX.m rfl ?_
 refine GX.done ?_
 refine WK.sr mixed ?_
 refine GX.m rfl ?_
 refine GX.done ?_
 refine WK.seq ?_
 refine WK.sr mixed ?_
 refine GX.m rfl ?_
 refine GX.done ?_
 refine WK.unroll 6 (WU.go ?_)
 refine WK.seq ?_
 refine WK.sr mixed ?_
 refine GX.m rfl ?_
 refine GX.q (.bool true) ?_
 refine GX.done ?_
 refine WK.condT rfl ?_
 refine WK.skip ?_
 refine WK.seq ?_
 refine WK.blockK (fun _ hK2 => ?_)
 refine WK.regx mixed ?_
 refine GX.m rfl ?_
 refine GX.q (.ptr 0 0) ?_
 refine GX.q (.int .u32 p0.A) ?_
 refine GX.m rfl ?_
 refine GX.q (.int .u32 (Int.fdiv p0.A (2 ^ 24))) ?_
 refine GX.q (.int .u32 (bit_and .u32 (Int.fdiv p0.A (2 ^ 24)) 255)) ?_
 refine GX.q (.int .i64 (IntKind.i64.wrap (bit_and .u32 (Int.fdiv p0.A (2 ^ 24)) 255))) ?_
 generalize hc16 : itoaO (IntKind.i64.wrap (bit_and .u32 (Int.fdiv p0.A (2 ^ 24)) 255)) = c16 at hR
 rcases c16 with _ | c16
 ·try dsimp only at hR
  cases hR
 try dsimp only at hR
 try dsimp only at hR
 refine GX.callp (r := .str c16) rfl rfl rfl (f36_ok (IntKind.i64.wrap (bit_and .u32 (Int.fdiv p0.A (2 ^ 24)) 255)) _ hc16) rfl rfl ?_
 refine GX.step (v' := .own 1 1 0 (([c16] : List ByteArray)).length) (heap' := [(0, .box (TPrefix.c p0)), (1, .row 1 9 (([c16] : List ByteArray).map c_str))]) (next' := 2) rfl rfl rfl rfl rfl rfl rfl ?_
 refine GX.appnil (c := c_str) (X := ([c16] : List ByteArray)) (heap' := [(0, .box (TPrefix.c p0)), (1, .row 1 9 (([c16] : List ByteArray).map c_str)), (2, .row 1 9 (([c16] : List ByteArray).map c_str))]) (next' := 3) rfl rfl rfl (elems_own rfl) (by ((try simp only [List.length_append, List.length_cons, List.length_nil, List.length_map, decide_eq_true_eq, decide_eq_false_iff_not] at *) <;> omega)) (by ((try simp only [List.length_append, List.length_cons, List.length_nil, List.length_map, decide_eq_true_eq, decide_eq_false_iff_not] at *) <;> omega)) rfl rfl ?_
 refine GX.m rfl ?_
 refine GX.done ?_
 refine WK.nil (QF.normal (hK2 _ ?_))
 refine WK.regx mixed ?_
 refine GX.m rfl ?_
 refine GX.q (.int .i64 16) ?_
 refine GX.m rfl ?_
 refine GX.done ?_
 refine WK.nil (QF.normal (WU.go ?_))
 refine WK.seq ?_
 refine WK.sr mixed ?_
 refine GX.m rfl ?_
 refine GX.q (.bool true) ?_
 refine GX.done ?_
 refine WK.condT rfl ?_
 refine WK.skip ?_
 refine WK.seq ?_
 refine WK.blockK (fun _ hK3 => ?_)
 refine WK.regx mixed ?_
 refine GX.m rfl ?_
 refine GX.q (.ptr 0 0) ?_
 refine GX.q (.int .u32 p0.A) ?_
 refine GX.m rfl ?_
 refine GX.q (.int .u32 (Int.fdiv p0.A (2 ^ 16))) ?_
 refine GX.q (.int .u32 (bit_and .u32 (Int.fdiv p0.A (2 ^ 16)) 255)) ?_
 refine GX.q (.int .i64 (IntKind.i64.wrap (bit_and .u32 (Int.fdiv p0.A (2 ^ 16)) 255))) ?_
 generalize hc16x : itoaO (IntKind.i64.wrap (bit_and .u32 (Int.fdiv p0.A (2 ^ 16)) 255)) = c16x at hR
 rcases c16x with _ | c16x
 ·try dsimp only at hR
  cases hR
 try dsimp only at hR
 try dsimp only at hR
 refine GX.callp (r := .str c16x) rfl rfl rfl (f36_ok (IntKind.i64.wrap (bit_and .u32 (Int.fdiv p0.A (2 ^ 16)) 255)) _ hc16x) rfl rfl ?_
 refine GX.step (v' := .own 3 1 0 (([c16x] : List ByteArray)).length) (heap' := [(0, .box (TPrefix.c p0)), (1, .row 1 9 (([c16] : List ByteArray).map c_str)), (2, .row 1 9 (([c16] : List ByteArray).map c_str)), (3, .row 1 9 (([c16x] : List ByteArray).map c_str))]) (next' := 4) rfl rfl rfl rfl rfl rfl rfl ?_
 refine GX.appT (c := c_str) (L := ([c16] : List ByteArray)) (X := ([c16x] : List ByteArray)) (heap' := [(0, .box (TPrefix.c p0)), (1, .row 1 9 (([c16] : List ByteArray).map c_str)), (3, .row 1 9 (([c16x] : List ByteArray).map c_str)), (4, .row 1 9 ((([c16] : List ByteArray) ++ ([c16x] : List ByteArray)).map c_str))]) (next' := 5) rfl rfl rfl rfl (elems_own rfl) (by ((try simp only [List.length_append, List.length_cons, List.length_nil, List.length_map, decide_eq_true_eq, decide_eq_false_iff_not] at *) <;> omega)) (by ((try simp only [List.length_append, List.length_cons, List.length_nil, List.length_map, decide_eq_true_eq, decide_eq_false_iff_not] at *) <;> omega)) rfl rfl rfl rfl ?_
 refine GX.m rfl ?_
 refine GX.done ?_
 refine WK.nil (QF.normal (hK3 _ ?_))
 refine WK.regx mixed ?_
 refine GX.m rfl ?_
 refine GX.q (.int .i64 8) ?_
 refine GX.m rfl ?_
 refine GX.done ?_
 refine WK.nil (QF.normal (WU.go ?_))
 refine WK.seq ?_
 refine WK.sr mixed ?_
 refine GX.m rfl ?_
 refine GX.q (.bool true) ?_
 refine GX.done ?_
 refine WK.condT rfl ?_
 refine WK.skip ?_
 refine WK.seq ?_
 refine WK.blockK (fun _ hK4 => ?_)
 refine WK.regx mixed ?_
 refine GX.m rfl ?_
 refine GX.q (.ptr 0 0) ?_
 refine GX.q (.int .u32 p0.A) ?_
 refine GX.m rfl ?_
 refine GX.q (.int .u32 (Int.fdiv p0.A (2 ^ 8))) ?_
 refine GX.q (.int .u32 (bit_and .u32 (Int.fdiv p0.A (2 ^ 8)) 255)) ?_
 refine GX.q (.int .i64 (IntKind.i64.wrap (bit_and .u32 (Int.fdiv p0.A (2 ^ 8)) 255))) ?_
 generalize hc16xx : itoaO (IntKind.i64.wrap (bit_and .u32 (Int.fdiv p0.A (2 ^ 8)) 255)) = c16xx at hR
 rcases c16xx with _ | c16xx
 ·try dsimp only at hR
  cases hR
 try dsimp only at hR
 try dsimp only at hR
 refine GX.callp (r := .str c16xx) rfl rfl rfl (f36_ok (IntKind.i64.wrap (bit_and .u32 (Int.fdiv p0.A (2 ^ 8)) 255)) _ hc16xx) rfl rfl ?_
 refine GX.step (v' := .own 5 1 0 (([c16xx] : List ByteArray)).length) (heap' := [(0, .box (TPrefix.c p0)), (1, .row 1 9 (([c16] : List ByteArray).map c_str)), (3, .row 1 9 (([c16x] : List ByteArray).map c_str)), (4, .row 1 9 ((([c16] : List ByteArray) ++ ([c16x] : List ByteArray)).map c_str)), (5, .row 1 9 (([c16xx] : List ByteArray).map c_str))]) (next' := 6) rfl rfl rfl rfl rfl rfl rfl ?_
 rcases bool_two (decide ((([c16] : List ByteArray) ++ ([c16x] : List ByteArray)).length < 1099511627776)) with hg5 | hg5
 ·simp only [hg5, bb] at hR
  try dsimp only at hR
  cases hR
 simp only [hg5, bb] at hR
 have hg5_ := of_decide_eq_true hg5
 refine GX.appT (c := c_str) (L := (([c16] : List ByteArray) ++ ([c16x] : List ByteArray))) (X := ([c16xx] : List ByteArray)) (heap' := [(0, .box (TPrefix.c p0)), (1, .row 1 9 (([c16] : List ByteArray).map c_str)), (3, .row 1 9 (([c16x] : List ByteArray).map c_str)), (5, .row 1 9 (([c16xx] : List ByteArray).map c_str)), (6, .row 1 9 (((([c16] : List ByteArray) ++ ([c16x] : List ByteArray)) ++ ([c16xx] : List ByteArray)).map c_str))]) (next' := 7) rfl rfl rfl rfl (elems_own rfl) (by ((try simp only [List.length_append, List.length_cons, List.length_nil, List.length_map, decide_eq_true_eq, decide_eq_false_iff_not] at *) <;> omega)) (by ((try simp only [List.length_append, List.length_cons, List.length_nil, List.length_map, decide_eq_true_eq, decide_eq_false_iff_not] at *) <;> omega)) rfl rfl rfl rfl ?_
 refine GX.m rfl ?_
 refine GX.done ?_
 refine WK.nil (QF.normal (hK4 _ ?_))
 refine WK.regx mixed ?_
 refine GX.m rfl ?_
 refine GX.q (.int .i64 0) ?_
 refine GX.m rfl ?_
 refine GX.done ?_
 refine WK.nil (QF.normal (WU.go ?_))
 refine WK.seq ?_
 refine WK.sr mixed ?_
 refine GX.m rfl ?_
 refine GX.q (.bool true) ?_
 refine GX.done ?_
 refine WK.condT rfl ?_
 refine WK.skip ?_
 refine WK.seq ?_
 refine WK.blockK (fun _ hK6 => ?_)
 refine WK.regx mixed ?_
 refine GX.m rfl ?_
 refine GX.q (.ptr 0 0) ?_
 refine GX.q (.int .u32 p0.A) ?_
 refine GX.m rfl ?_
 refine GX.q (.int .u32 (Int.fdiv p0.A (2 ^ 0))) ?_
 refine GX.q (.int .u32 (bit_and .u32 (Int.fdiv p0.A (2 ^ 0)) 255)) ?_
 refine GX.q (.int .i64 (IntKind.i64.wrap (bit_and .u32 (Int.fdiv p0.A (2 ^ 0)) 255))) ?_
 generalize hc16xxx : itoaO (IntKind.i64.wrap (bit_and .u32 (Int.fdiv p0.A (2 ^ 0)) 255)) = c16xxx at hR
 rcases c16xxx with _ | c16xxx
 ·try dsimp only at hR
  cases hR
 try dsimp only at hR
 try dsimp only at hR
 refine GX.callp (r := .str c16xxx) rfl rfl rfl (f36_ok (IntKind.i64.wrap (bit_and .u32 (Int.fdiv p0.A (2 ^ 0)) 255)) _ hc16xxx) rfl rfl ?_
 refine GX.step (v' := .own 7 1 0 (([c16xxx] : List ByteArray)).length) (heap' := [(0, .box (TPrefix.c p0)), (1, .row 1 9 (([c16] : List ByteArray).map c_str)), (3, .row 1 9 (([c16x] : List ByteArray).map c_str)), (5, .row 1 9 (([c16xx] : List ByteArray).map c_str)), (6, .row 1 9 (((([c16] : List ByteArray) ++ ([c16x] : List ByteArray)) ++ ([c16xx] : List ByteArray)).map c_str)), (7, .row 1 9 (([c16xxx] : List ByteArray).map c_str))]) (next' := 8) rfl rfl rfl rfl rfl rfl rfl ?_
 rcases bool_two (decide (((([c16] : List ByteArray) ++ ([c16x] : List ByteArray)) ++ ([c16xx] : List ByteArray)).length < 1099511627776)) with hg7 | hg7
 ·simp only [hg7, bb] at hR
  try dsimp only at hR
  cases hR
 simp only [hg7, bb] at hR
 have hg7_ := of_decide_eq_true hg7
 refine GX.appT (c := c_str) (L := ((([c16] : List ByteArray) ++ ([c16x] : List ByteArray)) ++ ([c16xx] : List ByteArray))) (X := ([c16xxx] : List ByteArray)) (heap' := [(0, .box (TPrefix.c p0)), (1, .row 1 9 (([c16] : List ByteArray).map c_str)), (3, .row 1 9 (([c16x] : List ByteArray).map c_str)), (5, .row 1 9 (([c16xx] : List ByteArray).map c_str)), (7, .row 1 9 (([c16xxx] : List ByteArray).map c_str)), (8, .row 1 9 ((((([c16] : List ByteArray) ++ ([c16x] : List ByteArray)) ++ ([c16xx] : List ByteArray)) ++ ([c16xxx] : List ByteArray)).map c_str))]) (next' := 9) rfl rfl rfl rfl (elems_own rfl) (by ((try simp only [List.length_append, List.length_cons, List.length_nil, List.length_map, decide_eq_true_eq, decide_eq_false_iff_not] at *) <;> omega)) (by ((try simp only [List.length_append, List.length_cons, List.length_nil, List.length_map, decide_eq_true_eq, decide_eq_false_iff_not] at *) <;> omega)) rfl rfl rfl rfl ?_
 refine GX.m rfl ?_
 refine GX.done ?_
 refine WK.nil (QF.normal (hK6 _ ?_))
 refine WK.regx mixed ?_
 refine GX.m rfl ?_
 refine GX.q (.int .i64 (-8)) ?_
 refine GX.m rfl ?_
 refine GX.done ?_
 refine WK.nil (QF.normal (WU.go ?_))
 refine WK.seq ?_
 refine WK.sr mixed ?_
 refine GX.m rfl ?_
 refine GX.q (.bool false) ?_
 refine GX.done ?_
 refine WK.condF rfl ?_
 refine WK.exit ?_
 refine QF.exit ?_
 refine WK.seq ?_
 refine WK.drawn mixed ?_
 refine RD.m rfl ?_
 generalize hc20 : joinO (((([c16] : List ByteArray) ++ ([c16x] : List ByteArray)) ++ ([c16xx] : List ByteArray)) ++ ([c16xxx] : List ByteArray)) (bstr [46]) = c20 at hR
 rcases c20 with _ | c20
 ·try dsimp only at hR
  cases hR
 try dsimp only at hR
 try dsimp only at hR
 refine RD.callbp (r := .str c20) [8] rfl rfl rfl (viewGo_cons (view_rowT rfl rfl) (viewGo_cons rfl viewGo_nil)) (f37_ok (((([c16] : List ByteArray) ++ ([c16x] : List ByteArray)) ++ ([c16xx] : List ByteArray)) ++ ([c16xxx] : List ByteArray)) (bstr [46]) _ hc20) rfl rfl ?_
 rcases bool_two (decide (c20.size + (bstr [47]).size ≤ 9223372036854775807)) with hg8 | hg8
 ·simp only [hg8, bb] at hR
  try dsimp only at hR
  cases hR
 simp only [hg8, bb] at hR
 have hg8_ := of_decide_eq_true hg8
 refine RD.pure (v' := .str (c20 ++ (bstr [47]))) rfl rfl rfl (core_addS (by omega)) rfl ?_
 refine RD.q (.ptr 0 1) ?_
 refine RD.q (.int .i64 p0.N) ?_
 generalize hc24 : itoaO p0.N = c24 at hR
 rcases c24 with _ | c24
 ·try dsimp only at hR
  cases hR
 try dsimp only at hR
 try dsimp only at hR
 refine RD.callp (r := .str c24) rfl rfl rfl (f36_ok p0.N _ hc24) rfl rfl ?_
 rcases bool_two (decide ((c20 ++ (bstr [47])).size + c24.size ≤ 9223372036854775807)) with hg9 | hg9
 ·simp only [hg9, bb] at hR
  try dsimp only at hR
  cases hR
 simp only [hg9, bb] at hR
 have hg9_ := of_decide_eq_true hg9
 refine RD.pure (v' := .str ((c20 ++ (bstr [47])) ++ c24)) rfl rfl rfl (core_addS (by omega)) rfl ?_
 refine RD.m rfl ?_
 refine RD.done rfl ?_
 refine WK.ret ?_
 obtain rfl := Option.some.inj hR
 exact RetQ.fr [] (.inr rfl) rfl rfl rfl rfl

theorem f22_ok (p0 : TPrefix) (a1 : Int) (R : Bool) (hR : F22_addr_Has p0 a1 = R) : FnOk Tryd.prog 22 [.agg (TPrefix.c p0), .int .u32 a1] [] 0 (.bool R) [] 0 := by
 refine FnOk.wk i22 rfl rfl ?_
 unfold F22_addr_Has at hR
 change WK _ _ _ [ac22] _ ⟨[(0, .agg (TPrefix.c p0)), (1, .int .u32 a1)], [], 0⟩
 unfold ac22
 refine WK.sr mixed ?_
 refine GX.step (v' := .ptr 0 0) (heap' := [(0, .box (TPrefix.c p0))]) (next' := 1) rfl rfl rfl rfl rfl rfl rfl ?_
 refine GX.m rfl ?_
 refine GX.done ?_
 refine WK.seq ?_
 refine WK.drawn mixed ?_
 refine RD.q (.agg (TPrefix.c p0)) ?_
 generalize hc6 : F17_addr_May p0 = c6 at hR
 try dsimp only at hR
 refine RD.callp (r := .bool c6) rfl rfl rfl (f17_ok p0 _ hc6) rfl rfl ?_
 refine RD.m rfl ?_
 rcases bool_two (c6) with hb1 | hb1
 ·rw [hb1]; try simp only [hb1, bb] at hR
  iterate 8 refine RD.skip rfl rfl ?_
  refine RD.q (.bool false) ?_
  refine RD.m rfl ?_
  refine RD.done rfl ?_
  refine WK.ret ?_
  subst hR
  exact RetQ.fr [] (.inr rfl) rfl rfl rfl rfl
 ·rw [hb1]; try simp only [hb1, bb] at hR
  refine RD.m rfl ?_
  refine RD.q (.ptr 0 1) ?_
  refine RD.q (.int .i64 p0.N) ?_
  generalize hc11 : F16_addr_Mask p0.N = c11 at hR
  try dsimp only at hR
  refine RD.callp (r := .int .u32 c11) rfl rfl rfl (f16_ok p0.N _ hc11) rfl rfl ?_
  refine RD.q (.int .u32 (bit_and .u32 a1 c11)) ?_
  refine RD.q (.ptr 0 0) ?_
  refine RD.q (.int .u32 p0.A) ?_
  iterate 2 refine RD.q (.bool (decide (bit_and .u32 a1 c11 = p0.A))) ?_
  refine RD.m rfl ?_
  refine RD.done rfl ?_
  refine WK.ret ?_
  subst hR
  exact RetQ.fr [] (.inr rfl) rfl rfl rfl rfl

theorem f14_ok (p0 : TPrefix) (q1 : TPrefix) (R : Bool) (hR : F14_addr_Covers p0 q1 = R) : FnOk Tryd.prog 14 [.agg (TPrefix.c p0), .agg (TPrefix.c q1)] [] 0 (.bool R) [] 0 := by
 refine FnOk.wk i14 rfl rfl ?_
 unfold F14_addr_Covers at hR
 change WK _ _ _ [ac14] _ ⟨[(0, .agg (TPrefix.c p0)), (1, .agg (TPrefix.c q1))], [], 0⟩
 unfold ac14
 refine WK.sr mixed ?_
 refine GX.step (v' := .ptr 0 0) (heap' := [(0, .box (TPrefix.c p0))]) (next' := 1) rfl rfl rfl rfl rfl rfl rfl ?_
 refine GX.step (v' := .ptr 1 0) (heap' := [(0, .box (TPrefix.c p0)), (1, .box (TPrefix.c q1))]) (next' := 2) rfl rfl rfl rfl rfl rfl rfl ?_
 refine GX.m rfl ?_
 refine GX.done ?_
 refine WK.sr mixed ?_
 refine GX.q (.agg (TPrefix.c q1)) ?_
 generalize hc6 : F17_addr_May q1 = c6 at hR
 try dsimp only at hR
 refine GX.callp (r := .bool c6) rfl rfl rfl (f17_ok q1 _ hc6) rfl rfl ?_
 refine GX.m rfl ?_
 rcases bool_two (c6) with hb1 | hb1
 ·rw [hb1]; try simp only [hb1, bb] at hR
  iterate 5 refine GX.skip rfl rfl ?_
  refine GX.q (.bool false) ?_
  refine GX.m rfl ?_
  iterate 4 refine GX.skip rfl rfl ?_
  refine GX.q (.bool false) ?_
  refine GX.m rfl ?_
  refine GX.done ?_
  refine WK.ret ?_
  subst hR
  exact RetQ.fr [] (.inr rfl) rfl rfl rfl rfl
 ·rw [hb1]; try simp only [hb1, bb] at hR
  refine GX.q (.ptr 0 1) ?_
  refine GX.q (.int .i64 p0.N) ?_
  refine GX.q (.ptr 1 1) ?_
  refine GX.q (.int .i64 q1.N) ?_
  iterate 2 refine GX.q (.bool (decide (p0.N ≤ q1.N))) ?_
  refine GX.m rfl ?_
  rcases bool_two (decide (p0.N ≤ q1.N)) with hb2 | hb2
  ·rw [hb2]; try simp only [hb2, bb] at hR
   iterate 4 refine GX.skip rfl rfl ?_
   refine GX.q (.bool false) ?_
   refine GX.m rfl ?_
   refine GX.done ?_
   refine WK.ret ?_
   subst hR
   exact RetQ.fr [] (.inr rfl) rfl rfl rfl rfl
  ·rw [hb2]; try simp only [hb2, bb] at hR
   refine GX.q (.agg (TPrefix.c p0)) ?_
   refine GX.q (.ptr 1 0) ?_
   refine GX.q (.int .u32 q1.A) ?_
   generalize hc18 : F22_addr_Has p0 q1.A = c18 at hR
   try dsimp only at hR
   refine GX.callp (r := .bool c18) rfl rfl rfl (f22_ok p0 q1.A _ hc18) rfl rfl ?_
   refine GX.q (.bool c18) ?_
   refine GX.m rfl ?_
   refine GX.done ?_
   refine WK.ret ?_
   subst hR
   exact RetQ.fr [] (.inr rfl) rfl rfl rfl rfl

theorem f9_ok  (R : Bool) (hR : F9_crossroadslaw03_alive = some R) : FnOk Tryd.prog 9 [] [] 0 (.bool R) [] 0 := by
 refine FnOk.wk i9 rfl rfl ?_
 unfold F9_crossroadslaw03_alive at hR
 try dsimp only at hR
 change WK _ _ _ [ac9] _ ⟨[], [], 0⟩
 unfold ac9
 refine WK.sr mixed ?_
 refine GX.m rfl ?_
 refine GX.done ?_
 refine WK.sr mixed ?_
 generalize hc8 : F10_addr_Parse (bstr [49, 48, 46, 48, 46, 48, 46, 48, 47, 56]) = c8 at hR
 rcases c8 with _ | c8
 ·try dsimp only at hR
  cases hR
 try dsimp only at hR
 obtain ⟨c8a, c8b⟩ := c8; try dsimp only at hR
 refine GX.callp (r := .tup [.agg [.int .u32 c8a.A, .int .i64 c8a.N], .int .i64 c8b]) rfl rfl rfl (f10_ok (bstr [49, 48, 46, 48, 46, 48, 46, 48, 47, 56]) _ hc8) rfl rfl ?_
 refine GX.m rfl ?_
 refine GX.q (.agg [.int .u32 c8a.A, .int .i64 c8a.N]) ?_
 refine GX.q (.int .i64 c8b) ?_
 refine GX.step (v' := .ptr 0 0) (heap' := [(0, .box [.int .u32 0, .int .i64 0])]) (next' := 1) rfl rfl rfl rfl rfl rfl rfl ?_
 refine GX.step0 (heap' := [(0, .box (TPrefix.c c8a))]) (next' := 1) rfl rfl rfl rfl rfl ?_
 refine GX.m rfl ?_
 refine GX.done ?_
 refine WK.sr mixed ?_
 generalize hc12 : F10_addr_Parse (bstr [49, 48, 46, 49, 46, 48, 46, 48, 47, 49, 54]) = c12 at hR
 rcases c12 with _ | c12
 ·try dsimp only at hR
  cases hR
 try dsimp only at hR
 obtain ⟨c12a, c12b⟩ := c12; try dsimp only at hR
 refine GX.callp (r := .tup [.agg [.int .u32 c12a.A, .int .i64 c12a.N], .int .i64 c12b]) rfl rfl rfl (f10_ok (bstr [49, 48, 46, 49, 46, 48, 46, 48, 47, 49, 54]) _ hc12) rfl rfl ?_
 refine GX.m rfl ?_
 refine GX.q (.agg [.int .u32 c12a.A, .int .i64 c12a.N]) ?_
 refine GX.q (.int .i64 c12b) ?_
 refine GX.step (v' := .ptr 1 0) (heap' := [(0, .box (TPrefix.c c8a)), (1, .box [.int .u32 0, .int .i64 0])]) (next' := 2) rfl rfl rfl rfl rfl rfl rfl ?_
 refine GX.step0 (heap' := [(0, .box (TPrefix.c c8a)), (1, .box (TPrefix.c c12a))]) (next' := 2) rfl rfl rfl rfl rfl ?_
 refine GX.m rfl ?_
 refine GX.done ?_
 refine WK.sr mixed ?_
 generalize hc16 : F10_addr_Parse (bstr [49, 48, 46, 49, 46, 48, 46, 48, 47, 56]) = c16 at hR
 rcases c16 with _ | c16
 ·try dsimp only at hR
  cases hR
 try dsimp only at hR
 obtain ⟨c16a, c16b⟩ := c16; try dsimp only at hR
 refine GX.callp (r := .tup [.agg [.int .u32 c16a.A, .int .i64 c16a.N], .int .i64 c16b]) rfl rfl rfl (f10_ok (bstr [49, 48, 46, 49, 46, 48, 46, 48, 47, 56]) _ hc16) rfl rfl ?_
 refine GX.m rfl ?_
 refine GX.q (.agg [.int .u32 c16a.A, .int .i64 c16a.N]) ?_
 refine GX.q (.int .i64 c16b) ?_
 refine GX.step (v' := .ptr 2 0) (heap' := [(0, .box (TPrefix.c c8a)), (1, .box (TPrefix.c c12a)), (2, .box [.int .u32 0, .int .i64 0])]) (next' := 3) rfl rfl rfl rfl rfl rfl rfl ?_
 refine GX.step0 (heap' := [(0, .box (TPrefix.c c8a)), (1, .box (TPrefix.c c12a)), (2, .box (TPrefix.c c16a))]) (next' := 3) rfl rfl rfl rfl rfl ?_
 refine GX.m rfl ?_
 refine GX.done ?_
 refine WK.sr mixed ?_
 refine GX.m rfl ?_
 refine GX.q (.bool (decide (c8b = 0))) ?_
 refine GX.m rfl ?_
 rcases bool_two (decide (c8b = 0)) with hb1 | hb1
 ·rw [hb1]; first | replace hR := cond_f hb1 hR | (try simp only [hb1, bb] at hR)
  iterate 2 refine GX.skip rfl rfl ?_
  refine GX.q (.bool false) ?_
  refine GX.m rfl ?_
  iterate 2 refine GX.skip rfl rfl ?_
  refine GX.q (.bool false) ?_
  refine GX.m rfl ?_
  iterate 3 refine GX.skip rfl rfl ?_
  refine GX.q (.bool false) ?_
  refine GX.m rfl ?_
  iterate 4 refine GX.skip rfl rfl ?_
  refine GX.q (.bool false) ?_
  refine GX.m rfl ?_
  iterate 3 refine GX.skip rfl rfl ?_
  refine GX.q (.bool false) ?_
  refine GX.m rfl ?_
  refine GX.done ?_
  refine WK.ret ?_
  obtain rfl := Option.some.inj hR
  exact RetQ.fr [] (.inr rfl) rfl rfl rfl rfl
 ·rw [hb1]; first | replace hR := cond_t hb1 hR | (try simp only [hb1, bb] at hR)
  refine GX.m rfl ?_
  iterate 2 refine GX.q (.bool (decide (c12b = 0))) ?_
  refine GX.m rfl ?_
  rcases bool_two (decide (c12b = 0)) with hb2 | hb2
  ·rw [hb2]; first | replace hR := cond_f hb2 hR | (try simp only [hb2, bb] at hR)
   iterate 2 refine GX.skip rfl rfl ?_
   refine GX.q (.bool false) ?_
   refine GX.m rfl ?_
   iterate 3 refine GX.skip rfl rfl ?_
   refine GX.q (.bool false) ?_
   refine GX.m rfl ?_
   iterate 4 refine GX.skip rfl rfl ?_
   refine GX.q (.bool false) ?_
   refine GX.m rfl ?_
   iterate 3 refine GX.skip rfl rfl ?_
   refine GX.q (.bool false) ?_
   refine GX.m rfl ?_
   refine GX.done ?_
   refine WK.ret ?_
   obtain rfl := Option.some.inj hR
   exact RetQ.fr [] (.inr rfl) rfl rfl rfl rfl
  ·rw [hb2]; first | replace hR := cond_t hb2 hR | (try simp only [hb2, bb] at hR)
   refine GX.m rfl ?_
   iterate 2 refine GX.q (.bool (decide (c16b = 1))) ?_
   refine GX.m rfl ?_
   rcases bool_two (decide (c16b = 1)) with hb3 | hb3
   ·rw [hb3]; first | replace hR := cond_f hb3 hR | (try simp only [hb3, bb] at hR)
    iterate 3 refine GX.skip rfl rfl ?_
    refine GX.q (.bool false) ?_
    refine GX.m rfl ?_
    iterate 4 refine GX.skip rfl rfl ?_
    refine GX.q (.bool false) ?_
    refine GX.m rfl ?_
    iterate 3 refine GX.skip rfl rfl ?_
    refine GX.q (.bool false) ?_
    refine GX.m rfl ?_
    refine GX.done ?_
    refine WK.ret ?_
    obtain rfl := Option.some.inj hR
    exact RetQ.fr [] (.inr rfl) rfl rfl rfl rfl
   ·rw [hb3]; first | replace hR := cond_t hb3 hR | (try simp only [hb3, bb] at hR)
    refine GX.q (.agg (TPrefix.c c8a)) ?_
    refine GX.q (.agg (TPrefix.c c12a)) ?_
    generalize hc32 : F14_addr_Covers c8a c12a = c32 at hR
    try dsimp only at hR
    refine GX.callp (r := .bool c32) rfl rfl rfl (f14_ok c8a c12a _ hc32) rfl rfl ?_
    refine GX.q (.bool c32) ?_
    refine GX.m rfl ?_
    rcases bool_two (c32) with hb4 | hb4
    ·rw [hb4]; first | replace hR := cond_f hb4 hR | (try simp only [hb4, bb] at hR)
     iterate 4 refine GX.skip rfl rfl ?_
     refine GX.q (.bool false) ?_
     refine GX.m rfl ?_
     iterate 3 refine GX.skip rfl rfl ?_
     refine GX.q (.bool false) ?_
     refine GX.m rfl ?_
     refine GX.done ?_
     refine WK.ret ?_
     obtain rfl := Option.some.inj hR
     exact RetQ.fr [] (.inr rfl) rfl rfl rfl rfl
    ·rw [hb4]; first | replace hR := cond_t hb4 hR | (try simp only [hb4, bb] at hR)
     refine GX.q (.agg (TPrefix.c c12a)) ?_
     refine GX.q (.agg (TPrefix.c c8a)) ?_
     generalize hc37 : F14_addr_Covers c12a c8a = c37 at hR
     try dsimp only at hR
     refine GX.callp (r := .bool c37) rfl rfl rfl (f14_ok c12a c8a _ hc37) rfl rfl ?_
     iterate 2 refine GX.q (.bool (!c37)) ?_
     refine GX.m rfl ?_
     rcases bool_two (c37) with hb5 | hb5
     ·rw [hb5]; first | replace hR := cond_f hb5 hR | (try simp only [hb5, bb] at hR)
      refine GX.q (.agg (TPrefix.c c12a)) ?_
      generalize hc42 : F12_addr_Text c12a = c42 at hR
      rcases c42 with _ | c42
      ·try dsimp only at hR
       cases hR
      try dsimp only at hR
      try dsimp only at hR
      refine GX.callp (r := .str c42) rfl rfl rfl (f12_ok c12a _ hc42) rfl rfl ?_
      iterate 2 refine GX.q (.bool (c42.toList == (bstr [49, 48, 46, 49, 46, 48, 46, 48, 47, 49, 54]).toList)) ?_
      refine GX.m rfl ?_
      refine GX.done ?_
      refine WK.ret ?_
      obtain rfl := Option.some.inj hR
      exact RetQ.fr [] (.inr rfl) rfl rfl rfl rfl
     ·rw [hb5]; first | replace hR := cond_t hb5 hR | (try simp only [hb5, bb] at hR)
      iterate 3 refine GX.skip rfl rfl ?_
      refine GX.q (.bool false) ?_
      refine GX.m rfl ?_
      refine GX.done ?_
      refine WK.ret ?_
      obtain rfl := Option.some.inj hR
      exact RetQ.fr [] (.inr rfl) rfl rfl rfl rfl

theorem f29_ok (a0 : Int) (i1 : Int) (R : Int) (hR : F29_crossroadsref03_Bit a0 i1 = R) : FnOk Tryd.prog 29 [.int .u32 a0, .int .i64 i1] [] 0 (.int .i64 R) [] 0 := by
 refine FnOk.wk i29 rfl rfl ?_
 unfold F29_crossroadsref03_Bit at hR
 change WK _ _ _ [ac29] _ ⟨[(0, .int .u32 a0), (1, .int .i64 i1)], [], 0⟩
 unfold ac29
 refine WK.sr mixed ?_
 refine GX.m rfl ?_
 refine GX.done ?_
 refine WK.seq ?_
 refine WK.sr mixed ?_
 refine GX.m rfl ?_
 refine GX.q (.bool (decide (i1 < 0))) ?_
 refine GX.m rfl ?_
 rcases bool_two (decide (i1 < 0)) with hb1 | hb1
 ·rw [hb1]; try simp only [hb1, bb] at hR
  refine GX.m rfl ?_
  iterate 2 refine GX.q (.bool (decide (31 < i1))) ?_
  refine GX.done ?_
  rcases bool_two (decide (31 < i1)) with hb2 | hb2
  ·rw [hb2]; try simp only [hb2, bb] at hR
   refine WK.condF rfl ?_
   refine WK.skip ?_
   refine WK.sr mixed ?_
   iterate 2 refine GX.m rfl ?_
   refine GX.q (.int .i64 (IntKind.i64.wrap (31 - i1))) ?_
   refine GX.q (.int .u64 (IntKind.u64.wrap (IntKind.i64.wrap (31 - i1)))) ?_
   refine GX.shr rfl rfl rfl (by exact wrap_u64_nonneg _) ?_
   refine GX.q (.int .u32 (bit_and .u32 (shr_ .u32 a0 (IntKind.u64.wrap (IntKind.i64.wrap (31 - i1)))) 1)) ?_
   refine GX.q (.int .i64 (IntKind.i64.wrap (bit_and .u32 (shr_ .u32 a0 (IntKind.u64.wrap (IntKind.i64.wrap (31 - i1)))) 1))) ?_
   refine GX.m rfl ?_
   refine GX.done ?_
   refine WK.ret ?_
   subst hR
   exact RetQ.fr [] (.inr rfl) rfl rfl rfl rfl
  ·rw [hb2]; try simp only [hb2, bb] at hR
   refine WK.condT rfl ?_
   refine WK.sr mixed ?_
   refine GX.m rfl ?_
   refine GX.done ?_
   refine WK.ret ?_
   subst hR
   exact RetQ.fr [] (.inr rfl) rfl rfl rfl rfl
 ·rw [hb1]; try simp only [hb1, bb] at hR
  iterate 2 refine GX.skip rfl rfl ?_
  refine GX.q (.bool true) ?_
  refine GX.done ?_
  refine WK.condT rfl ?_
  refine WK.sr mixed ?_
  refine GX.m rfl ?_
  refine GX.done ?_
  refine WK.ret ?_
  subst hR
  exact RetQ.fr [] (.inr rfl) rfl rfl rfl rfl

theorem f26_ok (p0 : TPrefix) (R : Bool) (hR : F26_crossroadsref03_May p0 = R) : FnOk Tryd.prog 26 [.agg (TPrefix.c p0)] [] 0 (.bool R) [] 0 := by
 refine FnOk.wk i26 rfl rfl ?_
 unfold F26_crossroadsref03_May at hR
 change WK _ _ _ [ac26] _ ⟨[(0, .agg (TPrefix.c p0))], [], 0⟩
 unfold ac26
 refine WK.sr mixed ?_
 refine GX.step (v' := .ptr 0 0) (heap' := [(0, .box (TPrefix.c p0))]) (next' := 1) rfl rfl rfl rfl rfl rfl rfl ?_
 refine GX.m rfl ?_
 refine GX.done ?_
 refine WK.seq ?_
 refine WK.sr mixed ?_
 refine GX.q (.ptr 0 1) ?_
 refine GX.q (.int .i64 p0.N) ?_
 refine GX.q (.bool (decide (p0.N < 0))) ?_
 refine GX.m rfl ?_
 rcases bool_two (decide (p0.N < 0)) with hb1 | hb1
 ·rw [hb1]; try simp only [hb1, bb] at hR
  refine GX.q (.ptr 0 1) ?_
  refine GX.q (.int .i64 p0.N) ?_
  iterate 2 refine GX.q (.bool (decide (32 < p0.N))) ?_
  refine GX.done ?_
  rcases bool_two (decide (32 < p0.N)) with hb2 | hb2
  ·rw [hb2]; try simp only [hb2, bb] at hR
   refine WK.condF rfl ?_
   refine WK.skip ?_
   refine WK.seq ?_
   refine WK.sr mixed ?_
   refine GX.q (.ptr 0 1) ?_
   refine GX.q (.int .i64 p0.N) ?_
   refine GX.m rfl ?_
   refine GX.done ?_
   generalize hZ_3 : F26_crossroadsref03_May_l1 p0 (fuelUp p0.N 32) p0.N = Z_3 at hR
   refine WK.forK (fun k s => ∃ (i3 : Int), fuelUp i3 32 ≤ k ∧ F26_crossroadsref03_May_l1 p0 k i3 = Z_3 ∧ s = ⟨[(1, .ptr 0 0), (3, .int .i64 i3)], [(0, .box (TPrefix.c p0))], 1⟩) (fuelUp p0.N 32) ⟨⟨[(1, .ptr 0 0), (3, .int .i64 p0.N)], [(0, .box (TPrefix.c p0))], 1⟩, Conv.keep [0] [] [1, 3] rfl rfl (viewE_cons rfl rfl (viewE_cons rfl rfl viewE_nil)) rfl rfl, p0.N, Nat.le_refl _, hZ_3, rfl⟩ ?_
   rintro k3 _ ⟨i3, hfu3, hL_3, rfl⟩ again_3 out_3 Q_3 hagain_3 hout_3 hQ_3
   refine WK.seq ?_
   refine WK.sr mixed ?_
   refine GX.m rfl ?_
   refine GX.q (.bool (decide (i3 < 32))) ?_
   refine GX.done ?_
   rcases bool_two (decide (i3 < 32)) with hb4 | hb4
   ·rw [hb4]
    unfold F26_crossroadsref03_May_l1 at hL_3; rw [hb4, cond_false] at hL_3
    refine WK.condF rfl ?_
    refine WK.exit ?_
    refine QF.exit (hout_3 _ ?_)
    subst hL_3
    try dsimp only [cond_true, cond_false] at hR
    refine WK.sr mixed ?_
    refine GX.m rfl ?_
    refine GX.done ?_
    refine WK.ret ?_
    subst hR
    exact RetQ.fr [] (.inr rfl) rfl rfl rfl rfl
   ·rw [hb4]
    obtain ⟨f3, rfl⟩ := fuel_pos hb4 hfu3
    unfold F26_crossroadsref03_May_l1 at hL_3; rw [hb4, cond_true] at hL_3; dsimp only at hL_3
    refine WK.condT rfl ?_
    refine WK.skip ?_
    refine WK.seq ?_
    refine WK.blockK (fun _ hK5 => ?_)
    refine WK.sr mixed ?_
    refine GX.q (.ptr 0 0) ?_
    refine GX.q (.int .u32 p0.A) ?_
    refine GX.m rfl ?_
    generalize hc21 : F29_crossroadsref03_Bit p0.A i3 = c21 at hL_3
    try dsimp only at hL_3
    refine GX.callp (r := .int .i64 c21) rfl rfl rfl (f29_ok p0.A i3 _ hc21) rfl rfl ?_
    refine GX.q (.bool (decide (c21 = 1))) ?_
    refine GX.done ?_
    rcases bool_two (decide (c21 = 1)) with hb6 | hb6
    ·rw [hb6]; try simp only [hb6, bb] at hL_3
     refine WK.condF rfl ?_
     refine WK.skip ?_
     refine WK.nil (QF.normal (hK5 _ ?_))
     refine WK.regx mixed ?_
     refine GX.m rfl ?_
     refine GX.q (.int .i64 (IntKind.i64.wrap (i3 + 1))) ?_
     refine GX.m rfl ?_
     refine GX.done ?_
     refine WK.nil (QF.normal ?_)
     exact hagain_3 _ f3 ⟨[(1, .ptr 0 0), (3, .int .i64 (IntKind.i64.wrap (i3 + 1)))], [(0, .box (TPrefix.c p0))], 1⟩ (Nat.lt_succ_self _) (Conv.keep [0] [] [1, 3] rfl rfl (viewE_cons rfl rfl (viewE_cons rfl rfl viewE_nil)) rfl rfl) ⟨(IntKind.i64.wrap (i3 + 1)), fuel_up hb4 (by decide) hfu3, hL_3, rfl⟩
    ·rw [hb6]; try simp only [hb6, bb] at hL_3
     refine WK.condT rfl ?_
     refine WK.sr mixed ?_
     refine GX.m rfl ?_
     refine GX.done ?_
     refine WK.ret ?_
     refine QF.ret ?_
     refine QF.ret (hQ_3 _ _ ?_)
     subst hL_3
     subst hR
     exact RetQ.fr [] (.inr rfl) rfl rfl rfl rfl
  ·rw [hb2]; try simp only [hb2, bb] at hR
   refine WK.condT rfl ?_
   refine WK.sr mixed ?_
   refine GX.m rfl ?_
   refine GX.done ?_
   refine WK.ret ?_
   subst hR
   exact RetQ.fr [] (.inr rfl) rfl rfl rfl rfl
 ·rw [hb1]; try simp only [hb1, bb] at hR
  iterate 3 refine GX.skip rfl rfl ?_
  refine GX.q (.bool true) ?_
  refine GX.done ?_
  refine WK.condT rfl ?_
  refine WK.sr mixed ?_
  refine GX.m rfl ?_
  refine GX.done ?_
  refine WK.ret ?_
  subst hR
  exact RetQ.fr [] (.inr rfl) rfl rfl rfl rfl

theorem f50_ok (x0 : Int) (R : Int) (hR : F50_bits_Len32 x0 = R) : FnOk Tryd.prog 50 [.int .u32 x0] [] 0 (.int .i64 R) [] 0 := by
 refine FnOk.wk i50 rfl rfl ?_
 unfold F50_bits_Len32 at hR
 change WK _ _ _ [ac50] _ ⟨[(0, .int .u32 x0)], [], 0⟩
 unfold ac50
 refine WK.sr mixed ?_
 refine GX.m rfl ?_
 refine GX.done ?_
 refine WK.seq ?_
 refine WK.sr mixed ?_
 refine GX.m rfl ?_
 refine GX.q (.bool (decide (65536 ≤ x0))) ?_
 refine GX.done ?_
 rcases bool_two (decide (65536 ≤ x0)) with hb1 | hb1
 ·rw [hb1]; try simp only [hb1, bb] at hR
  refine WK.condF rfl ?_
  refine WK.skip ?_
  refine WK.seq ?_
  refine WK.sr mixed ?_
  refine GX.m rfl ?_
  refine GX.q (.bool (decide (256 ≤ x0))) ?_
  refine GX.done ?_
  rcases bool_two (decide (256 ≤ x0)) with hb2 | hb2
  ·rw [hb2]; try simp only [hb2, bb] at hR
   refine WK.condF rfl ?_
   refine WK.skip ?_
   refine WK.sr mixed ?_
   iterate 2 refine GX.m rfl ?_
   refine GX.q (.int .u8 (IntKind.u8.wrap x0)) ?_
   refine GX.pure (v' := .int .u8 (strAt (bstr [0, 1, 2, 2, 3, 3, 3, 3, 4, 4, 4, 4, 4, 4, 4, 4, 5, 5, 5, 5, 5, 5, 5, 5, 5, 5, 5, 5, 5, 5, 5, 5, 6, 6, 6, 6, 6, 6, 6, 6, 6, 6, 6, 6, 6, 6, 6, 6, 6, 6, 6, 6, 6, 6, 6, 6, 6, 6, 6, 6, 6, 6, 6, 6, 7, 7, 7, 7, 7, 7, 7, 7, 7, 7, 7, 7, 7, 7, 7, 7, 7, 7, 7, 7, 7, 7, 7, 7, 7, 7, 7, 7, 7, 7, 7, 7, 7, 7, 7, 7, 7, 7, 7, 7, 7, 7, 7, 7, 7, 7, 7, 7, 7, 7, 7, 7, 7, 7, 7, 7, 7, 7, 7, 7, 7, 7, 7, 7, 8, 8, 8, 8, 8, 8, 8, 8, 8, 8, 8, 8, 8, 8, 8, 8, 8, 8, 8, 8, 8, 8, 8, 8, 8, 8, 8, 8, 8, 8, 8, 8, 8, 8, 8, 8, 8, 8, 8, 8, 8, 8, 8, 8, 8, 8, 8, 8, 8, 8, 8, 8, 8, 8, 8, 8, 8, 8, 8, 8, 8, 8, 8, 8, 8, 8, 8, 8, 8, 8, 8, 8, 8, 8, 8, 8, 8, 8, 8, 8, 8, 8, 8, 8, 8, 8, 8, 8, 8, 8, 8, 8, 8, 8, 8, 8, 8, 8, 8, 8, 8, 8, 8, 8, 8, 8, 8, 8, 8, 8, 8, 8, 8, 8, 8, 8, 8, 8, 8, 8, 8, 8, 8, 8, 8, 8, 8, 8]) (IntKind.u8.wrap x0))) rfl rfl rfl (core_idxS256 rfl) rfl ?_
   refine GX.q (.int .i64 (IntKind.i64.wrap (strAt (bstr [0, 1, 2, 2, 3, 3, 3, 3, 4, 4, 4, 4, 4, 4, 4, 4, 5, 5, 5, 5, 5, 5, 5, 5, 5, 5, 5, 5, 5, 5, 5, 5, 6, 6, 6, 6, 6, 6, 6, 6, 6, 6, 6, 6, 6, 6, 6, 6, 6, 6, 6, 6, 6, 6, 6, 6, 6, 6, 6, 6, 6, 6, 6, 6, 7, 7, 7, 7, 7, 7, 7, 7, 7, 7, 7, 7, 7, 7, 7, 7, 7, 7, 7, 7, 7, 7, 7, 7, 7, 7, 7, 7, 7, 7, 7, 7, 7, 7, 7, 7, 7, 7, 7, 7, 7, 7, 7, 7, 7, 7, 7, 7, 7, 7, 7, 7, 7, 7, 7, 7, 7, 7, 7, 7, 7, 7, 7, 7, 8, 8, 8, 8, 8, 8, 8, 8, 8, 8, 8, 8, 8, 8, 8, 8, 8, 8, 8, 8, 8, 8, 8, 8, 8, 8, 8, 8, 8, 8, 8, 8, 8, 8, 8, 8, 8, 8, 8, 8, 8, 8, 8, 8, 8, 8, 8, 8, 8, 8, 8, 8, 8, 8, 8, 8, 8, 8, 8, 8, 8, 8, 8, 8, 8, 8, 8, 8, 8, 8, 8, 8, 8, 8, 8, 8, 8, 8, 8, 8, 8, 8, 8, 8, 8, 8, 8, 8, 8, 8, 8, 8, 8, 8, 8, 8, 8, 8, 8, 8, 8, 8, 8, 8, 8, 8, 8, 8, 8, 8, 8, 8, 8, 8, 8, 8, 8, 8, 8, 8, 8, 8, 8, 8, 8, 8, 8, 8]) (IntKind.u8.wrap x0)))) ?_
   refine GX.q (.int .i64 (IntKind.i64.wrap (0 + (IntKind.i64.wrap (strAt (bstr [0, 1, 2, 2, 3, 3, 3, 3, 4, 4, 4, 4, 4, 4, 4, 4, 5, 5, 5, 5, 5, 5, 5, 5, 5, 5, 5, 5, 5, 5, 5, 5, 6, 6, 6, 6, 6, 6, 6, 6, 6, 6, 6, 6, 6, 6, 6, 6, 6, 6, 6, 6, 6, 6, 6, 6, 6, 6, 6, 6, 6, 6, 6, 6, 7, 7, 7, 7, 7, 7, 7, 7, 7, 7, 7, 7, 7, 7, 7, 7, 7, 7, 7, 7, 7, 7, 7, 7, 7, 7, 7, 7, 7, 7, 7, 7, 7, 7, 7, 7, 7, 7, 7, 7, 7, 7, 7, 7, 7, 7, 7, 7, 7, 7, 7, 7, 7, 7, 7, 7, 7, 7, 7, 7, 7, 7, 7, 7, 8, 8, 8, 8, 8, 8, 8, 8, 8, 8, 8, 8, 8, 8, 8, 8, 8, 8, 8, 8, 8, 8, 8, 8, 8, 8, 8, 8, 8, 8, 8, 8, 8, 8, 8, 8, 8, 8, 8, 8, 8, 8, 8, 8, 8, 8, 8, 8, 8, 8, 8, 8, 8, 8, 8, 8, 8, 8, 8, 8, 8, 8, 8, 8, 8, 8, 8, 8, 8, 8, 8, 8, 8, 8, 8, 8, 8, 8, 8, 8, 8, 8, 8, 8, 8, 8, 8, 8, 8, 8, 8, 8, 8, 8, 8, 8, 8, 8, 8, 8, 8, 8, 8, 8, 8, 8, 8, 8, 8, 8, 8, 8, 8, 8, 8, 8, 8, 8, 8, 8, 8, 8, 8, 8, 8, 8, 8, 8]) (IntKind.u8.wrap x0)))))) ?_
   refine GX.m rfl ?_
   refine GX.done ?_
   refine WK.ret ?_
   subst hR
   exact RetQ.fr [] (.inr rfl) rfl rfl rfl rfl
  ·rw [hb2]; try simp only [hb2, bb] at hR
   refine WK.condT rfl ?_
   refine WK.sr mixed ?_
   refine GX.m rfl ?_
   refine GX.q (.int .u32 (Int.fdiv x0 (2 ^ 8))) ?_
   refine GX.m rfl ?_
   refine GX.done ?_
   refine WK.regx mixed ?_
   refine GX.m rfl ?_
   refine GX.q (.int .i64 8) ?_
   refine GX.m rfl ?_
   refine GX.done ?_
   refine WK.sr mixed ?_
   iterate 2 refine GX.m rfl ?_
   refine GX.q (.int .u8 (IntKind.u8.wrap (Int.fdiv x0 (2 ^ 8)))) ?_
   refine GX.pure (v' := .int .u8 (strAt (bstr [0, 1, 2, 2, 3, 3, 3, 3, 4, 4, 4, 4, 4, 4, 4, 4, 5, 5, 5, 5, 5, 5, 5, 5, 5, 5, 5, 5, 5, 5, 5, 5, 6, 6, 6, 6, 6, 6, 6, 6, 6, 6, 6, 6, 6, 6, 6, 6, 6, 6, 6, 6, 6, 6, 6, 6, 6, 6, 6, 6, 6, 6, 6, 6, 7, 7, 7, 7, 7, 7, 7, 7, 7, 7, 7, 7, 7, 7, 7, 7, 7, 7, 7, 7, 7, 7, 7, 7, 7, 7, 7, 7, 7, 7, 7, 7, 7, 7, 7, 7, 7, 7, 7, 7, 7, 7, 7, 7, 7, 7, 7, 7, 7, 7, 7, 7, 7, 7, 7, 7, 7, 7, 7, 7, 7, 7, 7, 7, 8, 8, 8, 8, 8, 8, 8, 8, 8, 8, 8, 8, 8, 8, 8, 8, 8, 8, 8, 8, 8, 8, 8, 8, 8, 8, 8, 8, 8, 8, 8, 8, 8, 8, 8, 8, 8, 8, 8, 8, 8, 8, 8, 8, 8, 8, 8, 8, 8, 8, 8, 8, 8, 8, 8, 8, 8, 8, 8, 8, 8, 8, 8, 8, 8, 8, 8, 8, 8, 8, 8, 8, 8, 8, 8, 8, 8, 8, 8, 8, 8, 8, 8, 8, 8, 8, 8, 8, 8, 8, 8, 8, 8, 8, 8, 8, 8, 8, 8, 8, 8, 8, 8, 8, 8, 8, 8, 8, 8, 8, 8, 8, 8, 8, 8, 8, 8, 8, 8, 8, 8, 8, 8, 8, 8, 8, 8, 8]) (IntKind.u8.wrap (Int.fdiv x0 (2 ^ 8))))) rfl rfl rfl (core_idxS256 rfl) rfl ?_
   refine GX.q (.int .i64 (IntKind.i64.wrap (strAt (bstr [0, 1, 2, 2, 3, 3, 3, 3, 4, 4, 4, 4, 4, 4, 4, 4, 5, 5, 5, 5, 5, 5, 5, 5, 5, 5, 5, 5, 5, 5, 5, 5, 6, 6, 6, 6, 6, 6, 6, 6, 6, 6, 6, 6, 6, 6, 6, 6, 6, 6, 6, 6, 6, 6, 6, 6, 6, 6, 6, 6, 6, 6, 6, 6, 7, 7, 7, 7, 7, 7, 7, 7, 7, 7, 7, 7, 7, 7, 7, 7, 7, 7, 7, 7, 7, 7, 7, 7, 7, 7, 7, 7, 7, 7, 7, 7, 7, 7, 7, 7, 7, 7, 7, 7, 7, 7, 7, 7, 7, 7, 7, 7, 7, 7, 7, 7, 7, 7, 7, 7, 7, 7, 7, 7, 7, 7, 7, 7, 8, 8, 8, 8, 8, 8, 8, 8, 8, 8, 8, 8, 8, 8, 8, 8, 8, 8, 8, 8, 8, 8, 8, 8, 8, 8, 8, 8, 8, 8, 8, 8, 8, 8, 8, 8, 8, 8, 8, 8, 8, 8, 8, 8, 8, 8, 8, 8, 8, 8, 8, 8, 8, 8, 8, 8, 8, 8, 8, 8, 8, 8, 8, 8, 8, 8, 8, 8, 8, 8, 8, 8, 8, 8, 8, 8, 8, 8, 8, 8, 8, 8, 8, 8, 8, 8, 8, 8, 8, 8, 8, 8, 8, 8, 8, 8, 8, 8, 8, 8, 8, 8, 8, 8, 8, 8, 8, 8, 8, 8, 8, 8, 8, 8, 8, 8, 8, 8, 8, 8, 8, 8, 8, 8, 8, 8, 8, 8]) (IntKind.u8.wrap (Int.fdiv x0 (2 ^ 8)))))) ?_
   refine GX.q (.int .i64 (IntKind.i64.wrap (8 + (IntKind.i64.wrap (strAt (bstr [0, 1, 2, 2, 3, 3, 3, 3, 4, 4, 4, 4, 4, 4, 4, 4, 5, 5, 5, 5, 5, 5, 5, 5, 5, 5, 5, 5, 5, 5, 5, 5, 6, 6, 6, 6, 6, 6, 6, 6, 6, 6, 6, 6, 6, 6, 6, 6, 6, 6, 6, 6, 6, 6, 6, 6, 6, 6, 6, 6, 6, 6, 6, 6, 7, 7, 7, 7, 7, 7, 7, 7, 7, 7, 7, 7, 7, 7, 7, 7, 7, 7, 7, 7, 7, 7, 7, 7, 7, 7, 7, 7, 7, 7, 7, 7, 7, 7, 7, 7, 7, 7, 7, 7, 7, 7, 7, 7, 7, 7, 7, 7, 7, 7, 7, 7, 7, 7, 7, 7, 7, 7, 7, 7, 7, 7, 7, 7, 8, 8, 8, 8, 8, 8, 8, 8, 8, 8, 8, 8, 8, 8, 8, 8, 8, 8, 8, 8, 8, 8, 8, 8, 8, 8, 8, 8, 8, 8, 8, 8, 8, 8, 8, 8, 8, 8, 8, 8, 8, 8, 8, 8, 8, 8, 8, 8, 8, 8, 8, 8, 8, 8, 8, 8, 8, 8, 8, 8, 8, 8, 8, 8, 8, 8, 8, 8, 8, 8, 8, 8, 8, 8, 8, 8, 8, 8, 8, 8, 8, 8, 8, 8, 8, 8, 8, 8, 8, 8, 8, 8, 8, 8, 8, 8, 8, 8, 8, 8, 8, 8, 8, 8, 8, 8, 8, 8, 8, 8, 8, 8, 8, 8, 8, 8, 8, 8, 8, 8, 8, 8, 8, 8, 8, 8, 8, 8]) (IntKind.u8.wrap (Int.fdiv x0 (2 ^ 8)))))))) ?_
   refine GX.m rfl ?_
   refine GX.done ?_
   refine WK.ret ?_
   subst hR
   exact RetQ.fr [] (.inr rfl) rfl rfl rfl rfl
 ·rw [hb1]; try simp only [hb1, bb] at hR
  refine WK.condT rfl ?_
  refine WK.sr mixed ?_
  refine GX.m rfl ?_
  refine GX.q (.int .u32 (Int.fdiv x0 (2 ^ 16))) ?_
  refine GX.m rfl ?_
  refine GX.done ?_
  refine WK.regx mixed ?_
  refine GX.m rfl ?_
  refine GX.done ?_
  refine WK.seq ?_
  refine WK.sr mixed ?_
  refine GX.m rfl ?_
  refine GX.q (.bool (decide (256 ≤ (Int.fdiv x0 (2 ^ 16))))) ?_
  refine GX.done ?_
  rcases bool_two (decide (256 ≤ (Int.fdiv x0 (2 ^ 16)))) with hb3 | hb3
  ·rw [hb3]; try simp only [hb3, bb] at hR
   refine WK.condF rfl ?_
   refine WK.skip ?_
   refine WK.sr mixed ?_
   iterate 2 refine GX.m rfl ?_
   refine GX.q (.int .u8 (IntKind.u8.wrap (Int.fdiv x0 (2 ^ 16)))) ?_
   refine GX.pure (v' := .int .u8 (strAt (bstr [0, 1, 2, 2, 3, 3, 3, 3, 4, 4, 4, 4, 4, 4, 4, 4, 5, 5, 5, 5, 5, 5, 5, 5, 5, 5, 5, 5, 5, 5, 5, 5, 6, 6, 6, 6, 6, 6, 6, 6, 6, 6, 6, 6, 6, 6, 6, 6, 6, 6, 6, 6, 6, 6, 6, 6, 6, 6, 6, 6, 6, 6, 6, 6, 7, 7, 7, 7, 7, 7, 7, 7, 7, 7, 7, 7, 7, 7, 7, 7, 7, 7, 7, 7, 7, 7, 7, 7, 7, 7, 7, 7, 7, 7, 7, 7, 7, 7, 7, 7, 7, 7, 7, 7, 7, 7, 7, 7, 7, 7, 7, 7, 7, 7, 7, 7, 7, 7, 7, 7, 7, 7, 7, 7, 7, 7, 7, 7, 8, 8, 8, 8, 8, 8, 8, 8, 8, 8, 8, 8, 8, 8, 8, 8, 8, 8, 8, 8, 8, 8, 8, 8, 8, 8, 8, 8, 8, 8, 8, 8, 8, 8, 8, 8, 8, 8, 8, 8, 8, 8, 8, 8, 8, 8, 8, 8, 8, 8, 8, 8, 8, 8, 8, 8, 8, 8, 8, 8, 8, 8, 8, 8, 8, 8, 8, 8, 8, 8, 8, 8, 8, 8, 8, 8, 8, 8, 8, 8, 8, 8, 8, 8, 8, 8, 8, 8, 8, 8, 8, 8, 8, 8, 8, 8, 8, 8, 8, 8, 8, 8, 8, 8, 8, 8, 8, 8, 8, 8, 8, 8, 8, 8, 8, 8, 8, 8, 8, 8, 8, 8, 8, 8, 8, 8, 8, 8]) (IntKind.u8.wrap (Int.fdiv x0 (2 ^ 16))))) rfl rfl rfl (core_idxS256 rfl) rfl ?_
   refine GX.q (.int .i64 (IntKind.i64.wrap (strAt (bstr [0, 1, 2, 2, 3, 3, 3, 3, 4, 4, 4, 4, 4, 4, 4, 4, 5, 5, 5, 5, 5, 5, 5, 5, 5, 5, 5, 5, 5, 5, 5, 5, 6, 6, 6, 6, 6, 6, 6, 6, 6, 6, 6, 6, 6, 6, 6, 6, 6, 6, 6, 6, 6, 6, 6, 6, 6, 6, 6, 6, 6, 6, 6, 6, 7, 7, 7, 7, 7, 7, 7, 7, 7, 7, 7, 7, 7, 7, 7, 7, 7, 7, 7, 7, 7, 7, 7, 7, 7, 7, 7, 7, 7, 7, 7, 7, 7, 7, 7, 7, 7, 7, 7, 7, 7, 7, 7, 7, 7, 7, 7, 7, 7, 7, 7, 7, 7, 7, 7, 7, 7, 7, 7, 7, 7, 7, 7, 7, 8, 8, 8, 8, 8, 8, 8, 8, 8, 8, 8, 8, 8, 8, 8, 8, 8, 8, 8, 8, 8, 8, 8, 8, 8, 8, 8, 8, 8, 8, 8, 8, 8, 8, 8, 8, 8, 8, 8, 8, 8, 8, 8, 8, 8, 8, 8, 8, 8, 8, 8, 8, 8, 8, 8, 8, 8, 8, 8, 8, 8, 8, 8, 8, 8, 8, 8, 8, 8, 8, 8, 8, 8, 8, 8, 8, 8, 8, 8, 8, 8, 8, 8, 8, 8, 8, 8, 8, 8, 8, 8, 8, 8, 8, 8, 8, 8, 8, 8, 8, 8, 8, 8, 8, 8, 8, 8, 8, 8, 8, 8, 8, 8, 8, 8, 8, 8, 8, 8, 8, 8, 8, 8, 8, 8, 8, 8, 8]) (IntKind.u8.wrap (Int.fdiv x0 (2 ^ 16)))))) ?_
   refine GX.q (.int .i64 (IntKind.i64.wrap (16 + (IntKind.i64.wrap (strAt (bstr [0, 1, 2, 2, 3, 3, 3, 3, 4, 4, 4, 4, 4, 4, 4, 4, 5, 5, 5, 5, 5, 5, 5, 5, 5, 5, 5, 5, 5, 5, 5, 5, 6, 6, 6, 6, 6, 6, 6, 6, 6, 6, 6, 6, 6, 6, 6, 6, 6, 6, 6, 6, 6, 6, 6, 6, 6, 6, 6, 6, 6, 6, 6, 6, 7, 7, 7, 7, 7, 7, 7, 7, 7, 7, 7, 7, 7, 7, 7, 7, 7, 7, 7, 7, 7, 7, 7, 7, 7, 7, 7, 7, 7, 7, 7, 7, 7, 7, 7, 7, 7, 7, 7, 7, 7, 7, 7, 7, 7, 7, 7, 7, 7, 7, 7, 7, 7, 7, 7, 7, 7, 7, 7, 7, 7, 7, 7, 7, 8, 8, 8, 8, 8, 8, 8, 8, 8, 8, 8, 8, 8, 8, 8, 8, 8, 8, 8, 8, 8, 8, 8, 8, 8, 8, 8, 8, 8, 8, 8, 8, 8, 8, 8, 8, 8, 8, 8, 8, 8, 8, 8, 8, 8, 8, 8, 8, 8, 8, 8, 8, 8, 8, 8, 8, 8, 8, 8, 8, 8, 8, 8, 8, 8, 8, 8, 8, 8, 8, 8, 8, 8, 8, 8, 8, 8, 8, 8, 8, 8, 8, 8, 8, 8, 8, 8, 8, 8, 8, 8, 8, 8, 8, 8, 8, 8, 8, 8, 8, 8, 8, 8, 8, 8, 8, 8, 8, 8, 8, 8, 8, 8, 8, 8, 8, 8, 8, 8, 8, 8, 8, 8, 8, 8, 8, 8, 8]) (IntKind.u8.wrap (Int.fdiv x0 (2 ^ 16)))))))) ?_
   refine GX.m rfl ?_
   refine GX.done ?_
   refine WK.ret ?_
   subst hR
   exact RetQ.fr [] (.inr rfl) rfl rfl rfl rfl
  ·rw [hb3]; try simp only [hb3, bb] at hR
   refine WK.condT rfl ?_
   refine WK.sr mixed ?_
   refine GX.m rfl ?_
   refine GX.q (.int .u32 (Int.fdiv (Int.fdiv x0 (2 ^ 16)) (2 ^ 8))) ?_
   refine GX.m rfl ?_
   refine GX.done ?_
   refine WK.regx mixed ?_
   refine GX.m rfl ?_
   refine GX.q (.int .i64 24) ?_
   refine GX.m rfl ?_
   refine GX.done ?_
   refine WK.sr mixed ?_
   iterate 2 refine GX.m rfl ?_
   refine GX.q (.int .u8 (IntKind.u8.wrap (Int.fdiv (Int.fdiv x0 (2 ^ 16)) (2 ^ 8)))) ?_
   refine GX.pure (v' := .int .u8 (strAt (bstr [0, 1, 2, 2, 3, 3, 3, 3, 4, 4, 4, 4, 4, 4, 4, 4, 5, 5, 5, 5, 5, 5, 5, 5, 5, 5, 5, 5, 5, 5, 5, 5, 6, 6, 6, 6, 6, 6, 6, 6, 6, 6, 6, 6, 6, 6, 6, 6, 6, 6, 6, 6, 6, 6, 6, 6, 6, 6, 6, 6, 6, 6, 6, 6, 7, 7, 7, 7, 7, 7, 7, 7, 7, 7, 7, 7, 7, 7, 7, 7, 7, 7, 7, 7, 7, 7, 7, 7, 7, 7, 7, 7, 7, 7, 7, 7, 7, 7, 7, 7, 7, 7, 7, 7, 7, 7, 7, 7, 7, 7, 7, 7, 7, 7, 7, 7, 7, 7, 7, 7, 7, 7, 7, 7, 7, 7, 7, 7, 8, 8, 8, 8, 8, 8, 8, 8, 8, 8, 8, 8, 8, 8, 8, 8, 8, 8, 8, 8, 8, 8, 8, 8, 8, 8, 8, 8, 8, 8, 8, 8, 8, 8, 8, 8, 8, 8, 8, 8, 8, 8, 8, 8, 8, 8, 8, 8, 8, 8, 8, 8, 8, 8, 8, 8, 8, 8, 8, 8, 8, 8, 8, 8, 8, 8, 8, 8, 8, 8, 8, 8, 8, 8, 8, 8, 8, 8, 8, 8, 8, 8, 8, 8, 8, 8, 8, 8, 8, 8, 8, 8, 8, 8, 8, 8, 8, 8, 8, 8, 8, 8, 8, 8, 8, 8, 8, 8, 8, 8, 8, 8, 8, 8, 8, 8, 8, 8, 8, 8, 8, 8, 8, 8, 8, 8, 8, 8]) (IntKind.u8.wrap (Int.fdiv (Int.fdiv x0 (2 ^ 16)) (2 ^ 8))))) rfl rfl rfl (core_idxS256 rfl) rfl ?_
   refine GX.q (.int .i64 (IntKind.i64.wrap (strAt (bstr [0, 1, 2, 2, 3, 3, 3, 3, 4, 4, 4, 4, 4, 4, 4, 4, 5, 5, 5, 5, 5, 5, 5, 5, 5, 5, 5, 5, 5, 5, 5, 5, 6, 6, 6, 6, 6, 6, 6, 6, 6, 6, 6, 6, 6, 6, 6, 6, 6, 6, 6, 6, 6, 6, 6, 6, 6, 6, 6, 6, 6, 6, 6, 6, 7, 7, 7, 7, 7, 7, 7, 7, 7, 7, 7, 7, 7, 7, 7, 7, 7, 7, 7, 7, 7, 7, 7, 7, 7, 7, 7, 7, 7, 7, 7, 7, 7, 7, 7, 7, 7, 7, 7, 7, 7, 7, 7, 7, 7, 7, 7, 7, 7, 7, 7, 7, 7, 7, 7, 7, 7, 7, 7, 7, 7, 7, 7, 7, 8, 8, 8, 8, 8, 8, 8, 8, 8, 8, 8, 8, 8, 8, 8, 8, 8, 8, 8, 8, 8, 8, 8, 8, 8, 8, 8, 8, 8, 8, 8, 8, 8, 8, 8, 8, 8, 8, 8, 8, 8, 8, 8, 8, 8, 8, 8, 8, 8, 8, 8, 8, 8, 8, 8, 8, 8, 8, 8, 8, 8, 8, 8, 8, 8, 8, 8, 8, 8, 8, 8, 8, 8, 8, 8, 8, 8, 8, 8, 8, 8, 8, 8, 8, 8, 8, 8, 8, 8, 8, 8, 8, 8, 8, 8, 8, 8, 8, 8, 8, 8, 8, 8, 8, 8, 8, 8, 8, 8, 8, 8, 8, 8, 8, 8, 8, 8, 8, 8, 8, 8, 8, 8, 8, 8, 8, 8, 8]) (IntKind.u8.wrap (Int.fdiv (Int.fdiv x0 (2 ^ 16)) (2 ^ 8)))))) ?_
   refine GX.q (.int .i64 (IntKind.i64.wrap (24 + (IntKind.i64.wrap (strAt (bstr [0, 1, 2, 2, 3, 3, 3, 3, 4, 4, 4, 4, 4, 4, 4, 4, 5, 5, 5, 5, 5, 5, 5, 5, 5, 5, 5, 5, 5, 5, 5, 5, 6, 6, 6, 6, 6, 6, 6, 6, 6, 6, 6, 6, 6, 6, 6, 6, 6, 6, 6, 6, 6, 6, 6, 6, 6, 6, 6, 6, 6, 6, 6, 6, 7, 7, 7, 7, 7, 7, 7, 7, 7, 7, 7, 7, 7, 7, 7, 7, 7, 7, 7, 7, 7, 7, 7, 7, 7, 7, 7, 7, 7, 7, 7, 7, 7, 7, 7, 7, 7, 7, 7, 7, 7, 7, 7, 7, 7, 7, 7, 7, 7, 7, 7, 7, 7, 7, 7, 7, 7, 7, 7, 7, 7, 7, 7, 7, 8, 8, 8, 8, 8, 8, 8, 8, 8, 8, 8, 8, 8, 8, 8, 8, 8, 8, 8, 8, 8, 8, 8, 8, 8, 8, 8, 8, 8, 8, 8, 8, 8, 8, 8, 8, 8, 8, 8, 8, 8, 8, 8, 8, 8, 8, 8, 8, 8, 8, 8, 8, 8, 8, 8, 8, 8, 8, 8, 8, 8, 8, 8, 8, 8, 8, 8, 8, 8, 8, 8, 8, 8, 8, 8, 8, 8, 8, 8, 8, 8, 8, 8, 8, 8, 8, 8, 8, 8, 8, 8, 8, 8, 8, 8, 8, 8, 8, 8, 8, 8, 8, 8, 8, 8, 8, 8, 8, 8, 8, 8, 8, 8, 8, 8, 8, 8, 8, 8, 8, 8, 8, 8, 8, 8, 8, 8, 8]) (IntKind.u8.wrap (Int.fdiv (Int.fdiv x0 (2 ^ 16)) (2 ^ 8)))))))) ?_
   refine GX.m rfl ?_
   refine GX.done ?_
   refine WK.ret ?_
   subst hR
   exact RetQ.fr [] (.inr rfl) rfl rfl rfl rfl

theorem f38_ok (x0 : Int) (R : Int) (hR : F38_bits_LeadingZeros32 x0 = R) : FnOk Tryd.prog 38 [.int .u32 x0] [] 0 (.int .i64 R) [] 0 := by
 refine FnOk.wk i38 rfl rfl ?_
 unfold F38_bits_LeadingZeros32 at hR
 change WK _ _ _ [ac38] _ ⟨[(0, .int .u32 x0)], [], 0⟩
 unfold ac38
 refine WK.sr mixed ?_
 refine GX.m rfl ?_
 refine GX.done ?_
 refine WK.sr mixed ?_
 refine GX.m rfl ?_
 generalize hc4 : F50_bits_Len32 x0 = c4 at hR
 try dsimp only at hR
 refine GX.callp (r := .int .i64 c4) rfl rfl rfl (f50_ok x0 _ hc4) rfl rfl ?_
 refine GX.q (.int .i64 (IntKind.i64.wrap (32 - c4))) ?_
 refine GX.m rfl ?_
 refine GX.done ?_
 refine WK.ret ?_
 subst hR
 exact RetQ.fr [] (.inr rfl) rfl rfl rfl rfl

theorem f15_ok (mask0 : Int) (R : Int × Int) (hR : F15_addr_Long mask0 = R) : FnOk Tryd.prog 15 [.int .u32 mask0] [] 0 (.tup [.int .i64 R.1, .int .i64 R.2]) [] 0 := by
 refine FnOk.wk i15 rfl rfl ?_
 unfold F15_addr_Long at hR
 change WK _ _ _ [ac15] _ ⟨[(0, .int .u32 mask0)], [], 0⟩
 unfold ac15
 refine WK.sr mixed ?_
 iterate 2 refine GX.m rfl ?_
 refine GX.done ?_
 refine WK.sr mixed ?_
 refine GX.m rfl ?_
 refine GX.q (.int .u32 (bit_xor .u32 4294967295 mask0)) ?_
 generalize hc7 : F38_bits_LeadingZeros32 (bit_xor .u32 4294967295 mask0) = c7 at hR
 try dsimp only at hR
 refine GX.callp (r := .int .i64 c7) rfl rfl rfl (f38_ok (bit_xor .u32 4294967295 mask0) _ hc7) rfl rfl ?_
 refine GX.m rfl ?_
 refine GX.done ?_
 refine WK.seq ?_
 refine WK.sr mixed ?_
 refine GX.m rfl ?_
 generalize hc9 : F16_addr_Mask c7 = c9 at hR
 try dsimp only at hR
 refine GX.callp (r := .int .u32 c9) rfl rfl rfl (f16_ok c7 _ hc9) rfl rfl ?_
 refine GX.m rfl ?_
 refine GX.q (.bool (!decide (c9 = mask0))) ?_
 refine GX.done ?_
 rcases bool_two (decide (c9 = mask0)) with hb1 | hb1
 ·rw [hb1]; try simp only [hb1, bb] at hR
  refine WK.condT rfl ?_
  refine WK.sr mixed ?_
  iterate 2 refine GX.m rfl ?_
  refine GX.done ?_
  refine WK.ret ?_
  subst hR
  exact RetQ.fr [] (.inr rfl) rfl rfl rfl rfl
 ·rw [hb1]; try simp only [hb1, bb] at hR
  refine WK.condF rfl ?_
  refine WK.skip ?_
  refine WK.sr mixed ?_
  iterate 3 refine GX.m rfl ?_
  refine GX.done ?_
  refine WK.ret ?_
  subst hR
  exact RetQ.fr [] (.inr rfl) rfl rfl rfl rfl

theorem f27_ok (p0 : TPrefix) (a1 : Int) (R : Bool) (hR : F27_crossroadsref03_Has p0 a1 = R) : FnOk Tryd.prog 27 [.agg (TPrefix.c p0), .int .u32 a1] [] 0 (.bool R) [] 0 := by
 refine FnOk.wk i27 rfl rfl ?_
 unfold F27_crossroadsref03_Has at hR
 change WK _ _ _ [ac27] _ ⟨[(0, .agg (TPrefix.c p0)), (1, .int .u32 a1)], [], 0⟩
 unfold ac27
 refine WK.sr mixed ?_
 refine GX.step (v' := .ptr 0 0) (heap' := [(0, .box (TPrefix.c p0))]) (next' := 1) rfl rfl rfl rfl rfl rfl rfl ?_
 refine GX.m rfl ?_
 refine GX.done ?_
 refine WK.seq ?_
 refine WK.sr mixed ?_
 refine GX.q (.agg (TPrefix.c p0)) ?_
 generalize hc7 : F26_crossroadsref03_May p0 = c7 at hR
 try dsimp only at hR
 refine GX.callp (r := .bool c7) rfl rfl rfl (f26_ok p0 _ hc7) rfl rfl ?_
 refine GX.q (.bool (!c7)) ?_
 refine GX.done ?_
 rcases bool_two (c7) with hb1 | hb1
 ·rw [hb1]; try simp only [hb1, bb] at hR
  refine WK.condT rfl ?_
  refine WK.sr mixed ?_
  refine GX.m rfl ?_
  refine GX.done ?_
  refine WK.ret ?_
  subst hR
  exact RetQ.fr [] (.inr rfl) rfl rfl rfl rfl
 ·rw [hb1]; try simp only [hb1, bb] at hR
  refine WK.condF rfl ?_
  refine WK.skip ?_
  refine WK.seq ?_
  refine WK.sr mixed ?_
  refine GX.m rfl ?_
  refine GX.done ?_
  generalize hZ_2 : F27_crossroadsref03_Has_l1 p0 a1 (fuelUp 0 p0.N) 0 = Z_2 at hR
  refine WK.forK (fun k s => ∃ (i5 : Int), fuelUp i5 p0.N ≤ k ∧ 0 ≤ i5 ∧ F27_crossroadsref03_Has_l1 p0 a1 k i5 = Z_2 ∧ s = ⟨[(1, .int .u32 a1), (2, .ptr 0 0), (5, .int .i64 i5)], [(0, .box (TPrefix.c p0))], 1⟩) (fuelUp 0 p0.N) ⟨⟨[(1, .int .u32 a1), (2, .ptr 0 0), (5, .int .i64 0)], [(0, .box (TPrefix.c p0))], 1⟩, Conv.keep [0] [] [1, 2, 5] rfl rfl (viewE_cons rfl rfl (viewE_cons rfl rfl (viewE_cons rfl rfl viewE_nil))) rfl rfl, 0, Nat.le_refl _, (by omega), hZ_2, rfl⟩ ?_
  rintro k2 _ ⟨i5, hfu2, hinv2_c0, hL_2, rfl⟩ again_2 out_2 Q_2 hagain_2 hout_2 hQ_2
  refine WK.seq ?_
  refine WK.sr mixed ?_
  refine GX.m rfl ?_
  refine GX.q (.ptr 0 1) ?_
  refine GX.q (.int .i64 p0.N) ?_
  refine GX.q (.bool (decide (i5 < p0.N))) ?_
  refine GX.done ?_
  rcases bool_two (decide (i5 < p0.N)) with hb3 | hb3
  ·rw [hb3]
   unfold F27_crossroadsref03_Has_l1 at hL_2; rw [hb3, cond_false] at hL_2
   refine WK.condF rfl ?_
   refine WK.exit ?_
   refine QF.exit (hout_2 _ ?_)
   subst hL_2
   try dsimp only [cond_true, cond_false] at hR
   refine WK.sr mixed ?_
   refine GX.m rfl ?_
   refine GX.done ?_
   refine WK.ret ?_
   subst hR
   exact RetQ.fr [] (.inr rfl) rfl rfl rfl rfl
  ·rw [hb3]
   obtain ⟨f2, rfl⟩ := fuel_pos hb3 hfu2
   unfold F27_crossroadsref03_Has_l1 at hL_2; rw [hb3, cond_true] at hL_2; dsimp only at hL_2
   refine WK.condT rfl ?_
   refine WK.skip ?_
   refine WK.seq ?_
   refine WK.blockK (fun _ hK4 => ?_)
   refine WK.sr mixed ?_
   refine GX.q (.ptr 0 0) ?_
   refine GX.q (.int .u32 p0.A) ?_
   refine GX.m rfl ?_
   generalize hc18 : F29_crossroadsref03_Bit p0.A i5 = c18 at hL_2
   try dsimp only at hL_2
   refine GX.callp (r := .int .i64 c18) rfl rfl rfl (f29_ok p0.A i5 _ hc18) rfl rfl ?_
   iterate 2 refine GX.m rfl ?_
   generalize hc21 : F29_crossroadsref03_Bit a1 i5 = c21 at hL_2
   try dsimp only at hL_2
   refine GX.callp (r := .int .i64 c21) rfl rfl rfl (f29_ok a1 i5 _ hc21) rfl rfl ?_
   refine GX.q (.bool (!decide (c18 = c21))) ?_
   refine GX.done ?_
   rcases bool_two (decide (c18 = c21)) with hb5 | hb5
   ·rw [hb5]; try simp only [hb5, bb] at hL_2
    refine WK.condT rfl ?_
    refine WK.sr mixed ?_
    refine GX.m rfl ?_
    refine GX.done ?_
    refine WK.ret ?_
    refine QF.ret ?_
    refine QF.ret (hQ_2 _ _ ?_)
    subst hL_2
    subst hR
    exact RetQ.fr [] (.inr rfl) rfl rfl rfl rfl
   ·rw [hb5]; try simp only [hb5, bb] at hL_2
    refine WK.condF rfl ?_
    refine WK.skip ?_
    refine WK.nil (QF.normal (hK4 _ ?_))
    refine WK.regx mixed ?_
    refine GX.m rfl ?_
    refine GX.q (.int .i64 (IntKind.i64.wrap (i5 + 1))) ?_
    refine GX.m rfl ?_
    refine GX.done ?_
    refine WK.nil (QF.normal ?_)
    exact hagain_2 _ f2 ⟨[(1, .int .u32 a1), (2, .ptr 0 0), (5, .int .i64 (IntKind.i64.wrap (i5 + 1)))], [(0, .box (TPrefix.c p0))], 1⟩ (Nat.lt_succ_self _) (Conv.keep [0] [] [1, 2, 5] rfl rfl (viewE_cons rfl rfl (viewE_cons rfl rfl (viewE_cons rfl rfl viewE_nil))) rfl rfl) ⟨(IntKind.i64.wrap (i5 + 1)), fuel_up hb3 (by (have hlf := may03_len (by assumption) (by assumption); omega)) hfu2, (by (have hlf := may03_len (by assumption) (by assumption); (try simp only [decide_eq_true_eq, decide_eq_false_iff_not] at *); rw [wrap64_of (by omega) (by omega)]; omega)), hL_2, rfl⟩

theorem f30_ok (n0 : Int) (R : Int) (hR : F30_crossroadsref03_Mask n0 = some R) : FnOk Tryd.prog 30 [.int .i64 n0] [] 0 (.int .u32 R) [] 0 := by
 refine FnOk.wk i30 rfl rfl ?_
 unfold F30_crossroadsref03_Mask at hR
 try dsimp only at hR
 change WK _ _ _ [ac30] _ ⟨[(0, .int .i64 n0)], [], 0⟩
 unfold ac30
 refine WK.sr mixed ?_
 refine GX.m rfl ?_
 refine GX.done ?_
 refine WK.sr mixed ?_
 refine GX.m rfl ?_
 refine GX.done ?_
 refine WK.seq ?_
 refine WK.sr mixed ?_
 refine GX.m rfl ?_
 refine GX.done ?_
 generalize hZ_8 : F30_crossroadsref03_Mask_l1 n0 100 0 0 = Z_8 at hR
 refine WK.forK (fun k s => ∃ (m3 : Int) (i4 : Int), F30_crossroadsref03_Mask_l1 n0 k m3 i4 = Z_8 ∧ s = ⟨[(0, .int .i64 n0), (3, .int .u32 m3), (4, .int .i64 i4)], [], 0⟩) 100 ⟨⟨[(0, .int .i64 n0), (3, .int .u32 0), (4, .int .i64 0)], [], 0⟩, Conv.keep [] [] [0, 3, 4] rfl rfl (viewE_cons rfl rfl (viewE_cons rfl rfl (viewE_cons rfl rfl viewE_nil))) rfl rfl, 0, 0, hZ_8, rfl⟩ ?_
 rintro k8 _ ⟨m3, i4, hL_8, rfl⟩ again_8 out_8 Q_8 hagain_8 hout_8 hQ_8
 rcases k8 with _ | f8
 ·unfold F30_crossroadsref03_Mask_l1 at hL_8
  try dsimp only at hL_8
  subst hL_8
  try dsimp only at hR
  cases hR
 unfold F30_crossroadsref03_Mask_l1 at hL_8; try dsimp only at hL_8
 refine WK.seq ?_
 refine WK.sr mixed ?_
 refine GX.m rfl ?_
 refine GX.q (.bool (decide (i4 < 32))) ?_
 refine GX.done ?_
 rcases bool_two (decide (i4 < 32)) with hb9 | hb9
 ·rw [hb9]; try simp only [hb9, bb] at hL_8
  refine WK.condF rfl ?_
  refine WK.exit ?_
  refine QF.exit (hout_8 _ ?_)
  subst hL_8
  try dsimp only [cond_true, cond_false] at hR
  refine WK.sr mixed ?_
  iterate 2 refine GX.m rfl ?_
  refine GX.done ?_
  refine WK.ret ?_
  obtain rfl := Option.some.inj hR
  exact RetQ.fr [] (.inr rfl) rfl rfl rfl rfl
 ·rw [hb9]; try simp only [hb9, bb] at hL_8
  refine WK.condT rfl ?_
  refine WK.skip ?_
  refine WK.seq ?_
  refine WK.blockK (fun _ hK10 => ?_)
  refine WK.sr mixed ?_
  refine GX.m rfl ?_
  refine GX.q (.int .u32 (IntKind.u32.wrap (m3 * 2))) ?_
  refine GX.m rfl ?_
  refine GX.done ?_
  refine WK.sr mixed ?_
  iterate 2 refine GX.m rfl ?_
  refine GX.q (.bool (decide (i4 < n0))) ?_
  refine GX.done ?_
  rcases bool_two (decide (i4 < n0)) with hb11 | hb11
  ·rw [hb11]; try simp only [hb11, bb] at hL_8
   refine WK.condF rfl ?_
   refine WK.skip ?_
   refine WK.nil (QF.normal (hK10 _ ?_))
   refine WK.regx mixed ?_
   refine GX.m rfl ?_
   refine GX.q (.int .i64 (IntKind.i64.wrap (i4 + 1))) ?_
   refine GX.m rfl ?_
   refine GX.done ?_
   refine WK.nil (QF.normal ?_)
   exact hagain_8 _ f8 ⟨[(0, .int .i64 n0), (3, .int .u32 (IntKind.u32.wrap (m3 * 2))), (4, .int .i64 (IntKind.i64.wrap (i4 + 1)))], [], 0⟩ (Nat.lt_succ_self _) (Conv.keep [] [] [0, 3, 4] rfl rfl (viewE_cons rfl rfl (viewE_cons rfl rfl (viewE_cons rfl rfl viewE_nil))) rfl rfl) ⟨(IntKind.u32.wrap (m3 * 2)), (IntKind.i64.wrap (i4 + 1)), hL_8, rfl⟩
  ·rw [hb11]; try simp only [hb11, bb] at hL_8
   refine WK.condT rfl ?_
   refine WK.regx mixed ?_
   refine GX.m rfl ?_
   refine GX.q (.int .u32 (IntKind.u32.wrap ((IntKind.u32.wrap (m3 * 2)) + 1))) ?_
   refine GX.m rfl ?_
   refine GX.done ?_
   refine WK.nil (QF.normal (hK10 _ ?_))
   refine WK.regx mixed ?_
   refine GX.m rfl ?_
   refine GX.q (.int .i64 (IntKind.i64.wrap (i4 + 1))) ?_
   refine GX.m rfl ?_
   refine GX.done ?_
   refine WK.nil (QF.normal ?_)
   exact hagain_8 _ f8 ⟨[(0, .int .i64 n0), (3, .int .u32 (IntKind.u32.wrap ((IntKind.u32.wrap (m3 * 2)) + 1))), (4, .int .i64 (IntKind.i64.wrap (i4 + 1)))], [], 0⟩ (Nat.lt_succ_self _) (Conv.keep [] [] [0, 3, 4] rfl rfl (viewE_cons rfl rfl (viewE_cons rfl rfl (viewE_cons rfl rfl viewE_nil))) rfl rfl) ⟨(IntKind.u32.wrap ((IntKind.u32.wrap (m3 * 2)) + 1)), (IntKind.i64.wrap (i4 + 1)), hL_8, rfl⟩

theorem f24_ok (a0 : Int) (n1 : Int) (R : TPrefix × Int) (hR : F24_crossroadsref03_Of a0 n1 = some R) : FnOk Tryd.prog 24 [.int .u32 a0, .int .i64 n1] [] 0 (.tup [.agg (TPrefix.c R.1), .int .i64 R.2]) [] 0 := by
 refine FnOk.wk i24 rfl rfl ?_
 unfold F24_crossroadsref03_Of at hR
 try dsimp only at hR
 change WK _ _ _ [ac24] _ ⟨[(0, .int .u32 a0), (1, .int .i64 n1)], [], 0⟩
 unfold ac24
 refine WK.sr mixed ?_
 refine GX.step (v' := .ptr 0 0) (heap' := [(0, .box [.int .u32 0, .int .i64 0])]) (next' := 1) rfl rfl rfl rfl rfl rfl rfl ?_
 refine GX.m rfl ?_
 refine GX.done ?_
 refine WK.seq ?_
 refine WK.sr mixed ?_
 refine GX.m rfl ?_
 refine GX.q (.bool (decide (n1 < 0))) ?_
 refine GX.m rfl ?_
 rcases bool_two (decide (n1 < 0)) with hb1 | hb1
 ·rw [hb1]; first | replace hR := cond_f hb1 hR | (try simp only [hb1, bb] at hR)
  refine GX.m rfl ?_
  iterate 2 refine GX.q (.bool (decide (32 < n1))) ?_
  refine GX.done ?_
  rcases bool_two (decide (32 < n1)) with hb2 | hb2
  ·rw [hb2]; first | replace hR := cond_f hb2 hR | (try simp only [hb2, bb] at hR)
   refine WK.condF rfl ?_
   refine WK.skip ?_
   refine WK.sr mixed ?_
   iterate 2 refine GX.m rfl ?_
   generalize hc15 : F30_crossroadsref03_Mask n1 = c15 at hR
   rcases c15 with _ | c15
   ·try dsimp only at hR
    cases hR
   try dsimp only at hR
   try dsimp only at hR
   refine GX.callp (r := .int .u32 c15) rfl rfl rfl (f30_ok n1 _ hc15) rfl rfl ?_
   refine GX.q (.int .u32 (bit_and .u32 a0 c15)) ?_
   refine GX.m rfl ?_
   refine GX.q (.agg [.int .u32 (bit_and .u32 a0 c15), .int .i64 n1]) ?_
   refine GX.step0 (heap' := [(0, .box [.int .u32 (bit_and .u32 a0 c15), .int .i64 n1])]) (next' := 1) rfl rfl rfl rfl rfl ?_
   refine GX.m rfl ?_
   refine GX.done ?_
   refine WK.ret ?_
   obtain rfl := Option.some.inj hR
   exact RetQ.fr [] (.inr rfl) rfl rfl rfl rfl
  ·rw [hb2]; first | replace hR := cond_t hb2 hR | (try simp only [hb2, bb] at hR)
   refine WK.condT rfl ?_
   refine WK.sr mixed ?_
   refine GX.q (.agg [.int .u32 0, .int .i64 0]) ?_
   refine GX.step0 (heap' := [(0, .box [.int .u32 0, .int .i64 0])]) (next' := 1) rfl rfl rfl rfl rfl ?_
   refine GX.m rfl ?_
   refine GX.done ?_
   refine WK.ret ?_
   obtain rfl := Option.some.inj hR
   exact RetQ.fr [] (.inr rfl) rfl rfl rfl rfl
 ·rw [hb1]; first | replace hR := cond_t hb1 hR | (try simp only [hb1, bb] at hR)
  iterate 2 refine GX.skip rfl rfl ?_
  refine GX.q (.bool true) ?_
  refine GX.done ?_
  refine WK.condT rfl ?_
  refine WK.sr mixed ?_
  refine GX.q (.agg [.int .u32 0, .int .i64 0]) ?_
  refine GX.step0 (heap' := [(0, .box [.int .u32 0, .int .i64 0])]) (next' := 1) rfl rfl rfl rfl rfl ?_
  refine GX.m rfl ?_
  refine GX.done ?_
  refine WK.ret ?_
  obtain rfl := Option.some.inj hR
  exact RetQ.fr [] (.inr rfl) rfl rfl rfl rfl

theorem f23_ok (a0 : Int) (n1 : Int) (R : TPrefix × Int) (hR : F23_addr_Of a0 n1 = R) : FnOk Tryd.prog 23 [.int .u32 a0, .int .i64 n1] [] 0 (.tup [.agg (TPrefix.c R.1), .int .i64 R.2]) [] 0 := by
 refine FnOk.wk i23 rfl rfl ?_
 unfold F23_addr_Of at hR
 change WK _ _ _ [ac23] _ ⟨[(0, .int .u32 a0), (1, .int .i64 n1)], [], 0⟩
 unfold ac23
 refine WK.sr mixed ?_
 refine GX.step (v' := .ptr 0 0) (heap' := [(0, .box [.int .u32 0, .int .i64 0])]) (next' := 1) rfl rfl rfl rfl rfl rfl rfl ?_
 refine GX.m rfl ?_
 refine GX.done ?_
 refine WK.seq ?_
 refine WK.sr mixed ?_
 refine GX.m rfl ?_
 generalize hc7 : F39_addr_isLong n1 = c7 at hR
 try dsimp only at hR
 refine GX.callp (r := .bool c7) rfl rfl rfl (f39_ok n1 _ hc7) rfl rfl ?_
 refine GX.q (.bool (!c7)) ?_
 refine GX.done ?_
 rcases bool_two (c7) with hb1 | hb1
 ·rw [hb1]; try simp only [hb1, bb] at hR
  refine WK.condT rfl ?_
  refine WK.sr mixed ?_
  refine GX.q (.agg [.int .u32 0, .int .i64 0]) ?_
  refine GX.step0 (heap' := [(0, .box [.int .u32 0, .int .i64 0])]) (next' := 1) rfl rfl rfl rfl rfl ?_
  refine GX.m rfl ?_
  refine GX.done ?_
  refine WK.ret ?_
  subst hR
  exact RetQ.fr [] (.inr rfl) rfl rfl rfl rfl
 ·rw [hb1]; try simp only [hb1, bb] at hR
  refine WK.condF rfl ?_
  refine WK.skip ?_
  refine WK.sr mixed ?_
  iterate 2 refine GX.m rfl ?_
  generalize hc12 : F16_addr_Mask n1 = c12 at hR
  try dsimp only at hR
  refine GX.callp (r := .int .u32 c12) rfl rfl rfl (f16_ok n1 _ hc12) rfl rfl ?_
  refine GX.q (.int .u32 (bit_and .u32 a0 c12)) ?_
  refine GX.m rfl ?_
  refine GX.q (.agg [.int .u32 (bit_and .u32 a0 c12), .int .i64 n1]) ?_
  refine GX.step0 (heap' := [(0, .box [.int .u32 (bit_and .u32 a0 c12), .int .i64 n1])]) (next' := 1) rfl rfl rfl rfl rfl ?_
  refine GX.m rfl ?_
  refine GX.done ?_
  refine WK.ret ?_
  subst hR
  exact RetQ.fr [] (.inr rfl) rfl rfl rfl rfl

theorem f25_ok (mask0 : Int) (R : Int × Int) (hR : F25_crossroadsref03_Long mask0 = some R) : FnOk Tryd.prog 25 [.int .u32 mask0] [] 0 (.tup [.int .i64 R.1, .int .i64 R.2]) [] 0 := by
 refine FnOk.wk i25 rfl rfl ?_
 unfold F25_crossroadsref03_Long at hR
 try dsimp only at hR
 change WK _ _ _ [ac25] _ ⟨[(0, .int .u32 mask0)], [], 0⟩
 unfold ac25
 refine WK.sr mixed ?_
 iterate 2 refine GX.m rfl ?_
 refine GX.done ?_
 refine WK.seq ?_
 refine WK.sr mixed ?_
 refine GX.m rfl ?_
 refine GX.done ?_
 generalize hZ_4 : F25_crossroadsref03_Long_l1 mask0 100 0 = Z_4 at hR
 refine WK.forK (fun k s => ∃ (n4 : Int), F25_crossroadsref03_Long_l1 mask0 k n4 = Z_4 ∧ s = ⟨[(0, .int .u32 mask0), (4, .int .i64 n4)], [], 0⟩) 100 ⟨⟨[(0, .int .u32 mask0), (4, .int .i64 0)], [], 0⟩, Conv.keep [] [] [0, 4] rfl rfl (viewE_cons rfl rfl (viewE_cons rfl rfl viewE_nil)) rfl rfl, 0, hZ_4, rfl⟩ ?_
 rintro k4 _ ⟨n4, hL_4, rfl⟩ again_4 out_4 Q_4 hagain_4 hout_4 hQ_4
 rcases k4 with _ | f4
 ·unfold F25_crossroadsref03_Long_l1 at hL_4
  try dsimp only at hL_4
  subst hL_4
  try dsimp only at hR
  cases hR
 unfold F25_crossroadsref03_Long_l1 at hL_4; try dsimp only at hL_4
 refine WK.seq ?_
 refine WK.sr mixed ?_
 refine GX.m rfl ?_
 refine GX.q (.bool (decide (n4 ≤ 32))) ?_
 refine GX.done ?_
 rcases bool_two (decide (n4 ≤ 32)) with hb5 | hb5
 ·rw [hb5]; try simp only [hb5, bb] at hL_4
  refine WK.condF rfl ?_
  refine WK.exit ?_
  refine QF.exit (hout_4 _ ?_)
  subst hL_4
  try dsimp only [cond_true, cond_false] at hR
  refine WK.sr mixed ?_
  iterate 2 refine GX.m rfl ?_
  refine GX.done ?_
  refine WK.ret ?_
  obtain rfl := Option.some.inj hR
  exact RetQ.fr [] (.inr rfl) rfl rfl rfl rfl
 ·rw [hb5]; try simp only [hb5, bb] at hL_4
  refine WK.condT rfl ?_
  refine WK.skip ?_
  refine WK.seq ?_
  refine WK.blockK (fun _ hK6 => ?_)
  refine WK.sr mixed ?_
  refine GX.m rfl ?_
  generalize hc10 : F30_crossroadsref03_Mask n4 = c10 at hL_4
  rcases c10 with _ | c10
  ·try dsimp only at hL_4
   subst hL_4
   try dsimp only at hR
   cases hR
  try dsimp only at hL_4
  try dsimp only at hL_4
  refine GX.callp (r := .int .u32 c10) rfl rfl rfl (f30_ok n4 _ hc10) rfl rfl ?_
  refine GX.m rfl ?_
  refine GX.q (.bool (decide (c10 = mask0))) ?_
  refine GX.done ?_
  rcases bool_two (decide (c10 = mask0)) with hb7 | hb7
  ·rw [hb7]; try simp only [hb7, bb] at hL_4
   refine WK.condF rfl ?_
   refine WK.skip ?_
   refine WK.nil (QF.normal (hK6 _ ?_))
   refine WK.regx mixed ?_
   refine GX.m rfl ?_
   refine GX.q (.int .i64 (IntKind.i64.wrap (n4 + 1))) ?_
   refine GX.m rfl ?_
   refine GX.done ?_
   refine WK.nil (QF.normal ?_)
   exact hagain_4 _ f4 ⟨[(0, .int .u32 mask0), (4, .int .i64 (IntKind.i64.wrap (n4 + 1)))], [], 0⟩ (Nat.lt_succ_self _) (Conv.keep [] [] [0, 4] rfl rfl (viewE_cons rfl rfl (viewE_cons rfl rfl viewE_nil)) rfl rfl) ⟨(IntKind.i64.wrap (n4 + 1)), hL_4, rfl⟩
  ·rw [hb7]; try simp only [hb7, bb] at hL_4
   refine WK.condT rfl ?_
   refine WK.sr mixed ?_
   iterate 3 refine GX.m rfl ?_
   refine GX.done ?_
   refine WK.ret ?_
   refine QF.ret ?_
   refine QF.ret (hQ_4 _ _ ?_)
   subst hL_4
   try dsimp only at hR
   obtain rfl := Option.some.inj hR
   exact RetQ.fr [] (.inr rfl) rfl rfl rfl rfl

theorem f28_ok (a0 : Int) (i1 : Int) (R : Int) (hR : F28_addr_Bit a0 i1 = R) : FnOk Tryd.prog 28 [.int .u32 a0, .int .i64 i1] [] 0 (.int .i64 R) [] 0 := by
 refine FnOk.wk i28 rfl rfl ?_
 unfold F28_addr_Bit at hR
 change WK _ _ _ [ac28] _ ⟨[(0, .int .u32 a0), (1, .int .i64 i1)], [], 0⟩
 unfold ac28
 refine WK.sr mixed ?_
 refine GX.m rfl ?_
 refine GX.done ?_
 refine WK.seq ?_
 refine WK.sr mixed ?_
 refine GX.m rfl ?_
 refine GX.q (.bool (decide (i1 < 0))) ?_
 refine GX.m rfl ?_
 rcases bool_two (decide (i1 < 0)) with hb1 | hb1
 ·rw [hb1]; try simp only [hb1, bb] at hR
  refine GX.m rfl ?_
  iterate 2 refine GX.q (.bool (decide (32 ≤ i1))) ?_
  refine GX.done ?_
  rcases bool_two (decide (32 ≤ i1)) with hb2 | hb2
  ·rw [hb2]; try simp only [hb2, bb] at hR
   refine WK.condF rfl ?_
   refine WK.skip ?_
   refine WK.sr mixed ?_
   iterate 2 refine GX.m rfl ?_
   refine GX.q (.int .i64 (IntKind.i64.wrap (31 - i1))) ?_
   refine GX.shr rfl rfl rfl (by ((try simp only [decide_eq_true_eq, decide_eq_false_iff_not, Bool.not_eq_true, Bool.not_eq_false] at *); first | omega | (rw [wrap64_of (by omega) (by omega)]; omega) | (unfold min_ max_; (repeat' split) <;> first | omega | (rw [wrap64_of (by omega) (by omega)]; omega)))) ?_
   refine GX.q (.int .u32 (bit_and .u32 (shr_ .u32 a0 (IntKind.i64.wrap (31 - i1))) 1)) ?_
   refine GX.q (.int .i64 (IntKind.i64.wrap (bit_and .u32 (shr_ .u32 a0 (IntKind.i64.wrap (31 - i1))) 1))) ?_
   refine GX.m rfl ?_
   refine GX.done ?_
   refine WK.ret ?_
   subst hR
   exact RetQ.fr [] (.inr rfl) rfl rfl rfl rfl
  ·rw [hb2]; try simp only [hb2, bb] at hR
   refine WK.condT rfl ?_
   refine WK.sr mixed ?_
   refine GX.m rfl ?_
   refine GX.done ?_
   refine WK.ret ?_
   subst hR
   exact RetQ.fr [] (.inr rfl) rfl rfl rfl rfl
 ·rw [hb1]; try simp only [hb1, bb] at hR
  iterate 2 refine GX.skip rfl rfl ?_
  refine GX.q (.bool true) ?_
  refine GX.done ?_
  refine WK.condT rfl ?_
  refine WK.sr mixed ?_
  refine GX.m rfl ?_
  refine GX.done ?_
  refine WK.ret ?_
  subst hR
  exact RetQ.fr [] (.inr rfl) rfl rfl rfl rfl

theorem f40_ok (n0 : Int) (R : ByteArray) (hR : F40_crossroadsref03_decimal n0 = some R) : FnOk Tryd.prog 40 [.int .i64 n0] [] 0 (.str R) [] 0 := by
 refine FnOk.wk i40 rfl rfl ?_
 unfold F40_crossroadsref03_decimal at hR
 try dsimp only at hR
 change WK _ _ _ [ac40] _ ⟨[(0, .int .i64 n0)], [], 0⟩
 unfold ac40
 refine WK.sr mixed ?_
 refine GX.m rfl ?_
 refine GX.done ?_
 refine WK.sr mixed ?_
 refine GX.m rfl ?_
 refine GX.q (.bool (decide (n0 < 0))) ?_
 refine GX.m rfl ?_
 refine GX.done ?_
 refine WK.sr mixed ?_
 refine GX.m rfl ?_
 refine GX.q (.int .u64 (IntKind.u64.wrap n0)) ?_
 refine GX.m rfl ?_
 refine GX.done ?_
 refine WK.seq ?_
 refine WK.sr mixed ?_
 refine GX.m rfl ?_
 refine GX.done ?_
 rcases bool_two (decide (n0 < 0)) with hb1 | hb1
 ·rw [hb1]; first | replace hR := cond_f hb1 hR | (try simp only [hb1, bb] at hR)
  refine WK.condF rfl ?_
  refine WK.skip ?_
  refine WK.sr mixed ?_
  refine GX.m rfl ?_
  refine GX.q (.int .u64 (Int.tmod (IntKind.u64.wrap n0) 10)) ?_
  refine GX.q (.int .u64 (IntKind.u64.wrap (48 + (Int.tmod (IntKind.u64.wrap n0) 10)))) ?_
  refine GX.q (.int .u8 (IntKind.u8.wrap (IntKind.u64.wrap (48 + (Int.tmod (IntKind.u64.wrap n0) 10))))) ?_
  refine GX.step (v' := .own 0 1 0 (([IntKind.u8.wrap (IntKind.u64.wrap (48 + (Int.tmod (IntKind.u64.wrap n0) 10)))] : List Int)).length) (heap' := [(0, .row 1 5 (([IntKind.u8.wrap (IntKind.u64.wrap (48 + (Int.tmod (IntKind.u64.wrap n0) 10)))] : List Int).map c_u8))]) (next' := 1) rfl rfl rfl rfl rfl rfl rfl ?_
  refine GX.pure (v' := .str (strNums ([IntKind.u8.wrap (IntKind.u64.wrap (48 + (Int.tmod (IntKind.u64.wrap n0) 10)))] : List Int))) rfl rfl rfl (core_bstrT (L := ([IntKind.u8.wrap (IntKind.u64.wrap (48 + (Int.tmod (IntKind.u64.wrap n0) 10)))] : List Int)) (elems_own rfl)) rfl ?_
  refine GX.m rfl ?_
  refine GX.done ?_
  refine WK.seq ?_
  generalize hZ_6 : F40_crossroadsref03_decimal_l1 100 (IntKind.u64.wrap n0) (strNums ([IntKind.u8.wrap (IntKind.u64.wrap (48 + (Int.tmod (IntKind.u64.wrap n0) 10)))] : List Int)) = Z_6 at hR
  refine WK.forK (fun k s => ∃ (u4 : Int) (s5 : ByteArray), F40_crossroadsref03_decimal_l1 k u4 s5 = Z_6 ∧ s = ⟨[(3, .bool false), (4, .int .u64 u4), (5, .str s5)], [], 0⟩) 100 ⟨⟨[(3, .bool false), (4, .int .u64 (IntKind.u64.wrap n0)), (5, .str (strNums ([IntKind.u8.wrap (IntKind.u64.wrap (48 + (Int.tmod (IntKind.u64.wrap n0) 10)))] : List Int)))], [], 0⟩, Conv.keep [] [] [3, 4, 5] rfl rfl (viewE_cons rfl rfl (viewE_cons rfl rfl (viewE_cons rfl rfl viewE_nil))) rfl rfl, (IntKind.u64.wrap n0), (strNums ([IntKind.u8.wrap (IntKind.u64.wrap (48 + (Int.tmod (IntKind.u64.wrap n0) 10)))] : List Int)), hZ_6, rfl⟩ ?_
  rintro k6 _ ⟨u4, s5, hL_6, rfl⟩ again_6 out_6 Q_6 hagain_6 hout_6 hQ_6
  rcases k6 with _ | f6
  ·unfold F40_crossroadsref03_decimal_l1 at hL_6
   try dsimp only at hL_6
   subst hL_6
   try dsimp only at hR
   cases hR
  unfold F40_crossroadsref03_decimal_l1 at hL_6; try dsimp only at hL_6
  refine WK.seq ?_
  refine WK.sr mixed ?_
  refine GX.m rfl ?_
  refine GX.q (.bool (decide (10 ≤ u4))) ?_
  refine GX.done ?_
  rcases bool_two (decide (10 ≤ u4)) with hb7 | hb7
  ·rw [hb7]; try simp only [hb7, bb] at hL_6
   refine WK.condF rfl ?_
   refine WK.exit ?_
   refine QF.exit (hout_6 _ ?_)
   subst hL_6
   try dsimp only [cond_true, cond_false] at hR
   refine WK.seq ?_
   refine WK.sr mixed ?_
   refine GX.m rfl ?_
   refine GX.done ?_
   refine WK.condF rfl ?_
   refine WK.skip ?_
   refine WK.sr mixed ?_
   iterate 2 refine GX.m rfl ?_
   refine GX.done ?_
   refine WK.ret ?_
   obtain rfl := Option.some.inj hR
   exact RetQ.fr [] (.inr rfl) rfl rfl rfl rfl
  ·rw [hb7]; try simp only [hb7, bb] at hL_6
   refine WK.condT rfl ?_
   refine WK.skip ?_
   refine WK.blockK (fun _ hK8 => ?_)
   refine WK.sr mixed ?_
   refine GX.m rfl ?_
   refine GX.q (.int .u64 (IntKind.u64.wrap (Int.tdiv u4 10))) ?_
   refine GX.m rfl ?_
   refine GX.done ?_
   refine WK.regx mixed ?_
   refine GX.m rfl ?_
   refine GX.q (.int .u64 (Int.tmod (IntKind.u64.wrap (Int.tdiv u4 10)) 10)) ?_
   refine GX.q (.int .u64 (IntKind.u64.wrap (48 + (Int.tmod (IntKind.u64.wrap (Int.tdiv u4 10)) 10)))) ?_
   refine GX.q (.int .u8 (IntKind.u8.wrap (IntKind.u64.wrap (48 + (Int.tmod (IntKind.u64.wrap (Int.tdiv u4 10)) 10))))) ?_
   refine GX.step (v' := .own 0 1 0 (([IntKind.u8.wrap (IntKind.u64.wrap (48 + (Int.tmod (IntKind.u64.wrap (Int.tdiv u4 10)) 10)))] : List Int)).length) (heap' := [(0, .row 1 5 (([IntKind.u8.wrap (IntKind.u64.wrap (48 + (Int.tmod (IntKind.u64.wrap (Int.tdiv u4 10)) 10)))] : List Int).map c_u8))]) (next' := 1) rfl rfl rfl rfl rfl rfl rfl ?_
   refine GX.pure (v' := .str (strNums ([IntKind.u8.wrap (IntKind.u64.wrap (48 + (Int.tmod (IntKind.u64.wrap (Int.tdiv u4 10)) 10)))] : List Int))) rfl rfl rfl (core_bstrT (L := ([IntKind.u8.wrap (IntKind.u64.wrap (48 + (Int.tmod (IntKind.u64.wrap (Int.tdiv u4 10)) 10)))] : List Int)) (elems_own rfl)) rfl ?_
   refine GX.m rfl ?_
   rcases bool_two (decide ((strNums ([IntKind.u8.wrap (IntKind.u64.wrap (48 + (Int.tmod (IntKind.u64.wrap (Int.tdiv u4 10)) 10)))] : List Int)).size + s5.size ≤ 9223372036854775807)) with hg9 | hg9
   ·simp only [hg9, bb] at hL_6
    try dsimp only at hL_6
    subst hL_6
    try dsimp only at hR
    cases hR
   simp only [hg9, bb] at hL_6
   have hg9_ := of_decide_eq_true hg9
   refine GX.pure (v' := .str ((strNums ([IntKind.u8.wrap (IntKind.u64.wrap (48 + (Int.tmod (IntKind.u64.wrap (Int.tdiv u4 10)) 10)))] : List Int)) ++ s5)) rfl rfl rfl (core_addS (by omega)) rfl ?_
   refine GX.m rfl ?_
   refine GX.done ?_
   refine WK.nil (QF.normal (hK8 _ ?_))
   refine WK.nil (QF.normal ?_)
   exact hagain_6 _ f6 ⟨[(3, .bool false), (4, .int .u64 (IntKind.u64.wrap (Int.tdiv u4 10))), (5, .str ((strNums ([IntKind.u8.wrap (IntKind.u64.wrap (48 + (Int.tmod (IntKind.u64.wrap (Int.tdiv u4 10)) 10)))] : List Int)) ++ s5))], [], 0⟩ (Nat.lt_succ_self _) (Conv.keep [] [] [3, 4, 5] rfl rfl (viewE_cons rfl rfl (viewE_cons rfl rfl (viewE_cons rfl rfl viewE_nil))) rfl rfl) ⟨(IntKind.u64.wrap (Int.tdiv u4 10)), ((strNums ([IntKind.u8.wrap (IntKind.u64.wrap (48 + (Int.tmod (IntKind.u64.wrap (Int.tdiv u4 10)) 10)))] : List Int)) ++ s5), hL_6, rfl⟩
 ·rw [hb1]; first | replace hR := cond_t hb1 hR | (try simp only [hb1, bb] at hR)
  refine WK.condT rfl ?_
  refine WK.regx mixed ?_
  refine GX.m rfl ?_
  refine GX.q (.int .u64 (IntKind.u64.wrap (-(IntKind.u64.wrap n0)))) ?_
  refine GX.m rfl ?_
  refine GX.done ?_
  refine WK.sr mixed ?_
  refine GX.m rfl ?_
  refine GX.q (.int .u64 (Int.tmod (IntKind.u64.wrap (-(IntKind.u64.wrap n0))) 10)) ?_
  refine GX.q (.int .u64 (IntKind.u64.wrap (48 + (Int.tmod (IntKind.u64.wrap (-(IntKind.u64.wrap n0))) 10)))) ?_
  refine GX.q (.int .u8 (IntKind.u8.wrap (IntKind.u64.wrap (48 + (Int.tmod (IntKind.u64.wrap (-(IntKind.u64.wrap n0))) 10))))) ?_
  refine GX.step (v' := .own 0 1 0 (([IntKind.u8.wrap (IntKind.u64.wrap (48 + (Int.tmod (IntKind.u64.wrap (-(IntKind.u64.wrap n0))) 10)))] : List Int)).length) (heap' := [(0, .row 1 5 (([IntKind.u8.wrap (IntKind.u64.wrap (48 + (Int.tmod (IntKind.u64.wrap (-(IntKind.u64.wrap n0))) 10)))] : List Int).map c_u8))]) (next' := 1) rfl rfl rfl rfl rfl rfl rfl ?_
  refine GX.pure (v' := .str (strNums ([IntKind.u8.wrap (IntKind.u64.wrap (48 + (Int.tmod (IntKind.u64.wrap (-(IntKind.u64.wrap n0))) 10)))] : List Int))) rfl rfl rfl (core_bstrT (L := ([IntKind.u8.wrap (IntKind.u64.wrap (48 + (Int.tmod (IntKind.u64.wrap (-(IntKind.u64.wrap n0))) 10)))] : List Int)) (elems_own rfl)) rfl ?_
  refine GX.m rfl ?_
  refine GX.done ?_
  refine WK.seq ?_
  generalize hZ_15 : F40_crossroadsref03_decimal_l1 100 (IntKind.u64.wrap (-(IntKind.u64.wrap n0))) (strNums ([IntKind.u8.wrap (IntKind.u64.wrap (48 + (Int.tmod (IntKind.u64.wrap (-(IntKind.u64.wrap n0))) 10)))] : List Int)) = Z_15 at hR
  refine WK.forK (fun k s => ∃ (u4 : Int) (s5 : ByteArray), F40_crossroadsref03_decimal_l1 k u4 s5 = Z_15 ∧ s = ⟨[(3, .bool true), (4, .int .u64 u4), (5, .str s5)], [], 0⟩) 100 ⟨⟨[(3, .bool true), (4, .int .u64 (IntKind.u64.wrap (-(IntKind.u64.wrap n0)))), (5, .str (strNums ([IntKind.u8.wrap (IntKind.u64.wrap (48 + (Int.tmod (IntKind.u64.wrap (-(IntKind.u64.wrap n0))) 10)))] : List Int)))], [], 0⟩, Conv.keep [] [] [3, 4, 5] rfl rfl (viewE_cons rfl rfl (viewE_cons rfl rfl (viewE_cons rfl rfl viewE_nil))) rfl rfl, (IntKind.u64.wrap (-(IntKind.u64.wrap n0))), (strNums ([IntKind.u8.wrap (IntKind.u64.wrap (48 + (Int.tmod (IntKind.u64.wrap (-(IntKind.u64.wrap n0))) 10)))] : List Int)), hZ_15, rfl⟩ ?_
  rintro k15 _ ⟨u4, s5, hL_15, rfl⟩ again_15 out_15 Q_15 hagain_15 hout_15 hQ_15
  rcases k15 with _ | f15
  ·unfold F40_crossroadsref03_decimal_l1 at hL_15
   try dsimp only at hL_15
   subst hL_15
   try dsimp only at hR
   cases hR
  unfold F40_crossroadsref03_decimal_l1 at hL_15; try dsimp only at hL_15
  refine WK.seq ?_
  refine WK.sr mixed ?_
  refine GX.m rfl ?_
  refine GX.q (.bool (decide (10 ≤ u4))) ?_
  refine GX.done ?_
  rcases bool_two (decide (10 ≤ u4)) with hb16 | hb16
  ·rw [hb16]; try simp only [hb16, bb] at hL_15
   refine WK.condF rfl ?_
   refine WK.exit ?_
   refine QF.exit (hout_15 _ ?_)
   subst hL_15
   try dsimp only [cond_true, cond_false] at hR
   refine WK.seq ?_
   refine WK.sr mixed ?_
   refine GX.m rfl ?_
   refine GX.done ?_
   refine WK.condT rfl ?_
   refine WK.sr mixed ?_
   refine GX.m rfl ?_
   rcases bool_two (decide ((bstr [45]).size + s5.size ≤ 9223372036854775807)) with hg17 | hg17
   ·simp only [hg17, bb] at hR
    try dsimp only at hR
    cases hR
   simp only [hg17, bb] at hR
   have hg17_ := of_decide_eq_true hg17
   refine GX.pure (v' := .str ((bstr [45]) ++ s5)) rfl rfl rfl (core_addS (by omega)) rfl ?_
   refine GX.m rfl ?_
   refine GX.done ?_
   refine WK.ret ?_
   obtain rfl := Option.some.inj hR
   exact RetQ.fr [] (.inr rfl) rfl rfl rfl rfl
  ·rw [hb16]; try simp only [hb16, bb] at hL_15
   refine WK.condT rfl ?_
   refine WK.skip ?_
   refine WK.blockK (fun _ hK18 => ?_)
   refine WK.sr mixed ?_
   refine GX.m rfl ?_
   refine GX.q (.int .u64 (IntKind.u64.wrap (Int.tdiv u4 10))) ?_
   refine GX.m rfl ?_
   refine GX.done ?_
   refine WK.regx mixed ?_
   refine GX.m rfl ?_
   refine GX.q (.int .u64 (Int.tmod (IntKind.u64.wrap (Int.tdiv u4 10)) 10)) ?_
   refine GX.q (.int .u64 (IntKind.u64.wrap (48 + (Int.tmod (IntKind.u64.wrap (Int.tdiv u4 10)) 10)))) ?_
   refine GX.q (.int .u8 (IntKind.u8.wrap (IntKind.u64.wrap (48 + (Int.tmod (IntKind.u64.wrap (Int.tdiv u4 10)) 10))))) ?_
   refine GX.step (v' := .own 0 1 0 (([IntKind.u8.wrap (IntKind.u64.wrap (48 + (Int.tmod (IntKind.u64.wrap (Int.tdiv u4 10)) 10)))] : List Int)).length) (heap' := [(0, .row 1 5 (([IntKind.u8.wrap (IntKind.u64.wrap (48 + (Int.tmod (IntKind.u64.wrap (Int.tdiv u4 10)) 10)))] : List Int).map c_u8))]) (next' := 1) rfl rfl rfl rfl rfl rfl rfl ?_
   refine GX.pure (v' := .str (strNums ([IntKind.u8.wrap (IntKind.u64.wrap (48 + (Int.tmod (IntKind.u64.wrap (Int.tdiv u4 10)) 10)))] : List Int))) rfl rfl rfl (core_bstrT (L := ([IntKind.u8.wrap (IntKind.u64.wrap (48 + (Int.tmod (IntKind.u64.wrap (Int.tdiv u4 10)) 10)))] : List Int)) (elems_own rfl)) rfl ?_
   refine GX.m rfl ?_
   rcases bool_two (decide ((strNums ([IntKind.u8.wrap (IntKind.u64.wrap (48 + (Int.tmod (IntKind.u64.wrap (Int.tdiv u4 10)) 10)))] : List Int)).size + s5.size ≤ 9223372036854775807)) with hg19 | hg19
   ·simp only [hg19, bb] at hL_15
    try dsimp only at hL_15
    subst hL_15
    try dsimp only at hR
    cases hR
   simp only [hg19, bb] at hL_15
   have hg19_ := of_decide_eq_true hg19
   refine GX.pure (v' := .str ((strNums ([IntKind.u8.wrap (IntKind.u64.wrap (48 + (Int.tmod (IntKind.u64.wrap (Int.tdiv u4 10)) 10)))] : List Int)) ++ s5)) rfl rfl rfl (core_addS (by omega)) rfl ?_
   refine GX.m rfl ?_
   refine GX.done ?_
   refine WK.nil (QF.normal (hK18 _ ?_))
   refine WK.nil (QF.normal ?_)
   exact hagain_15 _ f15 ⟨[(3, .bool true), (4, .int .u64 (IntKind.u64.wrap (Int.tdiv u4 10))), (5, .str ((strNums ([IntKind.u8.wrap (IntKind.u64.wrap (48 + (Int.tmod (IntKind.u64.wrap (Int.tdiv u4 10)) 10)))] : List Int)) ++ s5))], [], 0⟩ (Nat.lt_succ_self _) (Conv.keep [] [] [3, 4, 5] rfl rfl (viewE_cons rfl rfl (viewE_cons rfl rfl (viewE_cons rfl rfl viewE_nil))) rfl rfl) ⟨(IntKind.u64.wrap (Int.tdiv u4 10)), ((strNums ([IntKind.u8.wrap (IntKind.u64.wrap (48 + (Int.tmod (IntKind.u64.wrap (Int.tdiv u4 10)) 10)))] : List Int)) ++ s5), hL_15, rfl⟩

theorem f31_ok (p0 : TPrefix) (R : ByteArray) (hR : F31_crossroadsref03_Text p0 = some R) : FnOk Tryd.prog 31 [.agg (TPrefix.c p0)] [] 0 (.str R) [] 0 := by
 refine FnOk.wk i31 rfl rfl ?_
 unfold F31_crossroadsref03_Text at hR
 try dsimp only at hR
 change WK _ _ _ [ac31] _ ⟨[(0, .agg (TPrefix.c p0))], [], 0⟩
 unfold ac31
 refine WK.sr mixed ?_
 refine GX.step (v' := .ptr 0 0) (heap' := [(0, .box (TPrefix.c p0))]) (next' := 1) rfl rfl rfl rfl rfl rfl rfl ?_
 refine GX.m rfl ?_
 refine GX.done ?_
 refine WK.sr mixed ?_
 refine GX.m rfl ?_
 refine GX.done ?_
 refine WK.seq ?_
 refine WK.sr mixed ?_
 refine GX.m rfl ?_
 refine GX.done ?_
 generalize hZ_4 : F31_crossroadsref03_Text_l1 p0 100 (bstr []) 0 = Z_4 at hR
 refine WK.forK (fun k s => ∃ (s3 : ByteArray) (i4 : Int), F31_crossroadsref03_Text_l1 p0 k s3 i4 = Z_4 ∧ s = ⟨[(1, .ptr 0 0), (3, .str s3), (4, .int .i64 i4)], [(0, .box (TPrefix.c p0))], 1⟩) 100 ⟨⟨[(1, .ptr 0 0), (3, .str (bstr [])), (4, .int .i64 0)], [(0, .box (TPrefix.c p0))], 1⟩, Conv.keep [0] [] [1, 3, 4] rfl rfl (viewE_cons rfl rfl (viewE_cons rfl rfl (viewE_cons rfl rfl viewE_nil))) rfl rfl, (bstr []), 0, hZ_4, rfl⟩ ?_
 rintro k4 _ ⟨s3, i4, hL_4, rfl⟩ again_4 out_4 Q_4 hagain_4 hout_4 hQ_4
 rcases k4 with _ | f4
 ·unfold F31_crossroadsref03_Text_l1 at hL_4
  try dsimp only at hL_4
  subst hL_4
  try dsimp only at hR
  cases hR
 unfold F31_crossroadsref03_Text_l1 at hL_4; try dsimp only at hL_4
 refine WK.seq ?_
 refine WK.sr mixed ?_
 refine GX.m rfl ?_
 refine GX.q (.bool (decide (i4 < 4))) ?_
 refine GX.done ?_
 rcases bool_two (decide (i4 < 4)) with hb5 | hb5
 ·rw [hb5]; try simp only [hb5, bb] at hL_4
  refine WK.condF rfl ?_
  refine WK.exit ?_
  refine QF.exit (hout_4 _ ?_)
  subst hL_4
  try dsimp only [cond_true, cond_false] at hR
  refine WK.sr mixed ?_
  refine GX.m rfl ?_
  rcases bool_two (decide (s3.size + (bstr [47]).size ≤ 9223372036854775807)) with hg6 | hg6
  ·simp only [hg6, bb] at hR
   try dsimp only at hR
   cases hR
  simp only [hg6, bb] at hR
  have hg6_ := of_decide_eq_true hg6
  refine GX.pure (v' := .str (s3 ++ (bstr [47]))) rfl rfl rfl (core_addS (by omega)) rfl ?_
  refine GX.q (.ptr 0 1) ?_
  refine GX.q (.int .i64 p0.N) ?_
  generalize hc29 : F40_crossroadsref03_decimal p0.N = c29 at hR
  rcases c29 with _ | c29
  ·try dsimp only at hR
   cases hR
  try dsimp only at hR
  try dsimp only at hR
  refine GX.callp (r := .str c29) rfl rfl rfl (f40_ok p0.N _ hc29) rfl rfl ?_
  rcases bool_two (decide ((s3 ++ (bstr [47])).size + c29.size ≤ 9223372036854775807)) with hg7 | hg7
  ·simp only [hg7, bb] at hR
   try dsimp only at hR
   cases hR
  simp only [hg7, bb] at hR
  have hg7_ := of_decide_eq_true hg7
  refine GX.pure (v' := .str ((s3 ++ (bstr [47])) ++ c29)) rfl rfl rfl (core_addS (by omega)) rfl ?_
  refine GX.m rfl ?_
  refine GX.done ?_
  refine WK.ret ?_
  obtain rfl := Option.some.inj hR
  exact RetQ.fr [] (.inr rfl) rfl rfl rfl rfl
 ·rw [hb5]; try simp only [hb5, bb] at hL_4
  refine WK.condT rfl ?_
  refine WK.skip ?_
  refine WK.seq ?_
  refine WK.blockK (fun _ hK8 => ?_)
  refine WK.seq ?_
  refine WK.sr mixed ?_
  refine GX.m rfl ?_
  refine GX.q (.bool (decide (0 < i4))) ?_
  refine GX.done ?_
  rcases bool_two (decide (0 < i4)) with hb9 | hb9
  ·rw [hb9]; try simp only [hb9, bb] at hL_4
   refine WK.condF rfl ?_
   refine WK.skip ?_
   refine WK.regx mixed ?_
   refine GX.m rfl ?_
   refine GX.q (.ptr 0 0) ?_
   refine GX.q (.int .u32 p0.A) ?_
   refine GX.m rfl ?_
   refine GX.q (.int .i64 (IntKind.i64.wrap (8 * i4))) ?_
   refine GX.q (.int .i64 (IntKind.i64.wrap (24 - (IntKind.i64.wrap (8 * i4))))) ?_
   refine GX.q (.int .u64 (IntKind.u64.wrap (IntKind.i64.wrap (24 - (IntKind.i64.wrap (8 * i4)))))) ?_
   refine GX.shr rfl rfl rfl (by exact wrap_u64_nonneg _) ?_
   refine GX.q (.int .u32 (bit_and .u32 (shr_ .u32 p0.A (IntKind.u64.wrap (IntKind.i64.wrap (24 - (IntKind.i64.wrap (8 * i4)))))) 255)) ?_
   refine GX.q (.int .i64 (IntKind.i64.wrap (bit_and .u32 (shr_ .u32 p0.A (IntKind.u64.wrap (IntKind.i64.wrap (24 - (IntKind.i64.wrap (8 * i4)))))) 255))) ?_
   generalize hc23 : F40_crossroadsref03_decimal (IntKind.i64.wrap (bit_and .u32 (shr_ .u32 p0.A (IntKind.u64.wrap (IntKind.i64.wrap (24 - (IntKind.i64.wrap (8 * i4)))))) 255)) = c23 at hL_4
   rcases c23 with _ | c23
   ·try dsimp only at hL_4
    subst hL_4
    try dsimp only at hR
    cases hR
   try dsimp only at hL_4
   try dsimp only at hL_4
   refine GX.callp (r := .str c23) rfl rfl rfl (f40_ok (IntKind.i64.wrap (bit_and .u32 (shr_ .u32 p0.A (IntKind.u64.wrap (IntKind.i64.wrap (24 - (IntKind.i64.wrap (8 * i4)))))) 255)) _ hc23) rfl rfl ?_
   rcases bool_two (decide (s3.size + c23.size ≤ 9223372036854775807)) with hg10 | hg10
   ·simp only [hg10, bb] at hL_4
    try dsimp only at hL_4
    subst hL_4
    try dsimp only at hR
    cases hR
   simp only [hg10, bb] at hL_4
   have hg10_ := of_decide_eq_true hg10
   refine GX.pure (v' := .str (s3 ++ c23)) rfl rfl rfl (core_addS (by omega)) rfl ?_
   refine GX.m rfl ?_
   refine GX.done ?_
   refine WK.nil (QF.normal (hK8 _ ?_))
   refine WK.regx mixed ?_
   refine GX.m rfl ?_
   refine GX.q (.int .i64 (IntKind.i64.wrap (i4 + 1))) ?_
   refine GX.m rfl ?_
   refine GX.done ?_
   refine WK.nil (QF.normal ?_)
   exact hagain_4 _ f4 ⟨[(1, .ptr 0 0), (3, .str (s3 ++ c23)), (4, .int .i64 (IntKind.i64.wrap (i4 + 1)))], [(0, .box (TPrefix.c p0))], 1⟩ (Nat.lt_succ_self _) (Conv.keep [0] [] [1, 3, 4] rfl rfl (viewE_cons rfl rfl (viewE_cons rfl rfl (viewE_cons rfl rfl viewE_nil))) rfl rfl) ⟨(s3 ++ c23), (IntKind.i64.wrap (i4 + 1)), hL_4, rfl⟩
  ·rw [hb9]; try simp only [hb9, bb] at hL_4
   refine WK.condT rfl ?_
   refine WK.regx mixed ?_
   refine GX.m rfl ?_
   rcases bool_two (decide (s3.size + (bstr [46]).size ≤ 9223372036854775807)) with hg11 | hg11
   ·simp only [hg11, bb] at hL_4
    try dsimp only at hL_4
    subst hL_4
    try dsimp only at hR
    cases hR
   simp only [hg11, bb] at hL_4
   have hg11_ := of_decide_eq_true hg11
   refine GX.pure (v' := .str (s3 ++ (bstr [46]))) rfl rfl rfl (core_addS (by omega)) rfl ?_
   refine GX.m rfl ?_
   refine GX.done ?_
   refine WK.regx mixed ?_
   refine GX.m rfl ?_
   refine GX.q (.ptr 0 0) ?_
   refine GX.q (.int .u32 p0.A) ?_
   refine GX.m rfl ?_
   refine GX.q (.int .i64 (IntKind.i64.wrap (8 * i4))) ?_
   refine GX.q (.int .i64 (IntKind.i64.wrap (24 - (IntKind.i64.wrap (8 * i4))))) ?_
   refine GX.q (.int .u64 (IntKind.u64.wrap (IntKind.i64.wrap (24 - (IntKind.i64.wrap (8 * i4)))))) ?_
   refine GX.shr rfl rfl rfl (by exact wrap_u64_nonneg _) ?_
   refine GX.q (.int .u32 (bit_and .u32 (shr_ .u32 p0.A (IntKind.u64.wrap (IntKind.i64.wrap (24 - (IntKind.i64.wrap (8 * i4)))))) 255)) ?_
   refine GX.q (.int .i64 (IntKind.i64.wrap (bit_and .u32 (shr_ .u32 p0.A (IntKind.u64.wrap (IntKind.i64.wrap (24 - (IntKind.i64.wrap (8 * i4)))))) 255))) ?_
   generalize hc23 : F40_crossroadsref03_decimal (IntKind.i64.wrap (bit_and .u32 (shr_ .u32 p0.A (IntKind.u64.wrap (IntKind.i64.wrap (24 - (IntKind.i64.wrap (8 * i4)))))) 255)) = c23 at hL_4
   rcases c23 with _ | c23
   ·try dsimp only at hL_4
    subst hL_4
    try dsimp only at hR
    cases hR
   try dsimp only at hL_4
   try dsimp only at hL_4
   refine GX.callp (r := .str c23) rfl rfl rfl (f40_ok (IntKind.i64.wrap (bit_and .u32 (shr_ .u32 p0.A (IntKind.u64.wrap (IntKind.i64.wrap (24 - (IntKind.i64.wrap (8 * i4)))))) 255)) _ hc23) rfl rfl ?_
   rcases bool_two (decide ((s3 ++ (bstr [46])).size + c23.size ≤ 9223372036854775807)) with hg12 | hg12
   ·simp only [hg12, bb] at hL_4
    try dsimp only at hL_4
    subst hL_4
    try dsimp only at hR
    cases hR
   simp only [hg12, bb] at hL_4
   have hg12_ := of_decide_eq_true hg12
   refine GX.pure (v' := .str ((s3 ++ (bstr [46])) ++ c23)) rfl rfl rfl (core_addS (by omega)) rfl ?_
   refine GX.m rfl ?_
   refine GX.done ?_
   refine WK.nil (QF.normal (hK8 _ ?_))
   refine WK.regx mixed ?_
   refine GX.m rfl ?_
   refine GX.q (.int .i64 (IntKind.i64.wrap (i4 + 1))) ?_
   refine GX.m rfl ?_
   refine GX.done ?_
   refine WK.nil (QF.normal ?_)
   exact hagain_4 _ f4 ⟨[(1, .ptr 0 0), (3, .str ((s3 ++ (bstr [46])) ++ c23)), (4, .int .i64 (IntKind.i64.wrap (i4 + 1)))], [(0, .box (TPrefix.c p0))], 1⟩ (Nat.lt_succ_self _) (Conv.keep [0] [] [1, 3, 4] rfl rfl (viewE_cons rfl rfl (viewE_cons rfl rfl (viewE_cons rfl rfl viewE_nil))) rfl rfl) ⟨((s3 ++ (bstr [46])) ++ c23), (IntKind.i64.wrap (i4 + 1)), hL_4, rfl⟩

theorem f8_ok (p0 : TPrefix) (a1 : Int) (i2 : Int) (R : Bool) (hR : F8_crossroadslaw03_AddrTold p0 a1 i2 = some R) : FnOk Tryd.prog 8 [.agg (TPrefix.c p0), .int .u32 a1, .int .i64 i2] [] 0 (.bool R) [] 0 := by
 refine FnOk.wk i8 rfl rfl ?_
 unfold F8_crossroadslaw03_AddrTold at hR
 try dsimp only at hR
 change WK _ _ _ [ac8] _ ⟨[(0, .agg (TPrefix.c p0)), (1, .int .u32 a1), (2, .int .i64 i2)], [], 0⟩
 unfold ac8
 refine WK.sr mixed ?_
 refine GX.step (v' := .ptr 0 0) (heap' := [(0, .box (TPrefix.c p0))]) (next' := 1) rfl rfl rfl rfl rfl rfl rfl ?_
 refine GX.m rfl ?_
 refine GX.done ?_
 refine WK.sr mixed ?_
 iterate 2 refine GX.m rfl ?_
 generalize hc18 : F23_addr_Of a1 i2 = c18 at hR
 obtain ⟨c18a, c18b⟩ := c18; try dsimp only at hR
 refine GX.callp (r := .tup [.agg [.int .u32 c18a.A, .int .i64 c18a.N], .int .i64 c18b]) rfl rfl rfl (f23_ok a1 i2 _ hc18) rfl rfl ?_
 refine GX.m rfl ?_
 refine GX.q (.agg [.int .u32 c18a.A, .int .i64 c18a.N]) ?_
 refine GX.q (.int .i64 c18b) ?_
 refine GX.step (v' := .ptr 1 0) (heap' := [(0, .box (TPrefix.c p0)), (1, .box [.int .u32 0, .int .i64 0])]) (next' := 2) rfl rfl rfl rfl rfl rfl rfl ?_
 refine GX.step0 (heap' := [(0, .box (TPrefix.c p0)), (1, .box (TPrefix.c c18a))]) (next' := 2) rfl rfl rfl rfl rfl ?_
 refine GX.m rfl ?_
 refine GX.done ?_
 refine WK.sr mixed ?_
 iterate 2 refine GX.m rfl ?_
 generalize hc24 : F24_crossroadsref03_Of a1 i2 = c24 at hR
 rcases c24 with _ | c24
 ·try dsimp only at hR
  cases hR
 try dsimp only at hR
 obtain ⟨c24a, c24b⟩ := c24; try dsimp only at hR
 refine GX.callp (r := .tup [.agg [.int .u32 c24a.A, .int .i64 c24a.N], .int .i64 c24b]) rfl rfl rfl (f24_ok a1 i2 _ hc24) rfl rfl ?_
 refine GX.m rfl ?_
 refine GX.q (.agg [.int .u32 c24a.A, .int .i64 c24a.N]) ?_
 refine GX.q (.int .i64 c24b) ?_
 refine GX.step (v' := .ptr 2 0) (heap' := [(0, .box (TPrefix.c p0)), (1, .box (TPrefix.c c18a)), (2, .box [.int .u32 0, .int .i64 0])]) (next' := 3) rfl rfl rfl rfl rfl rfl rfl ?_
 refine GX.step0 (heap' := [(0, .box (TPrefix.c p0)), (1, .box (TPrefix.c c18a)), (2, .box (TPrefix.c c24a))]) (next' := 3) rfl rfl rfl rfl rfl ?_
 refine GX.m rfl ?_
 refine GX.done ?_
 refine WK.sr mixed ?_
 refine GX.m rfl ?_
 generalize hc29 : F15_addr_Long a1 = c29 at hR
 obtain ⟨c29a, c29b⟩ := c29; try dsimp only at hR
 refine GX.callp (r := .tup [.int .i64 c29a, .int .i64 c29b]) rfl rfl rfl (f15_ok a1 _ hc29) rfl rfl ?_
 refine GX.m rfl ?_
 refine GX.q (.int .i64 c29a) ?_
 refine GX.q (.int .i64 c29b) ?_
 iterate 2 refine GX.m rfl ?_
 refine GX.done ?_
 refine WK.sr mixed ?_
 refine GX.m rfl ?_
 generalize hc34 : F25_crossroadsref03_Long a1 = c34 at hR
 rcases c34 with _ | c34
 ·try dsimp only at hR
  cases hR
 try dsimp only at hR
 obtain ⟨c34a, c34b⟩ := c34; try dsimp only at hR
 refine GX.callp (r := .tup [.int .i64 c34a, .int .i64 c34b]) rfl rfl rfl (f25_ok a1 _ hc34) rfl rfl ?_
 refine GX.m rfl ?_
 refine GX.q (.int .i64 c34a) ?_
 refine GX.q (.int .i64 c34b) ?_
 iterate 2 refine GX.m rfl ?_
 refine GX.done ?_
 refine WK.seq ?_
 refine WK.drawn mixed ?_
 generalize hc37 : F9_crossroadslaw03_alive = c37 at hR
 rcases c37 with _ | c37
 ·try dsimp only at hR
  cases hR
 try dsimp only at hR
 try dsimp only at hR
 refine RD.callp (r := .bool c37) rfl rfl rfl (f9_ok  _ hc37) rfl rfl ?_
 refine RD.m rfl ?_
 rcases bool_two (c37) with hb1 | hb1
 ·rw [hb1]; first | replace hR := cond_f hb1 hR | (try simp only [hb1, bb] at hR)
  iterate 5 refine RD.skip rfl rfl ?_
  refine RD.q (.bool false) ?_
  refine RD.m rfl ?_
  iterate 7 refine RD.skip rfl rfl ?_
  refine RD.q (.bool false) ?_
  refine RD.m rfl ?_
  iterate 3 refine RD.skip rfl rfl ?_
  refine RD.q (.bool false) ?_
  refine RD.m rfl ?_
  iterate 3 refine RD.skip rfl rfl ?_
  refine RD.q (.bool false) ?_
  refine RD.m rfl ?_
  iterate 7 refine RD.skip rfl rfl ?_
  refine RD.q (.bool false) ?_
  refine RD.m rfl ?_
  iterate 5 refine RD.skip rfl rfl ?_
  refine RD.q (.bool false) ?_
  refine RD.m rfl ?_
  iterate 3 refine RD.skip rfl rfl ?_
  refine RD.q (.bool false) ?_
  refine RD.m rfl ?_
  iterate 3 refine RD.skip rfl rfl ?_
  refine RD.q (.bool false) ?_
  refine RD.m rfl ?_
  iterate 5 refine RD.skip rfl rfl ?_
  refine RD.q (.bool false) ?_
  refine RD.m rfl ?_
  refine RD.doneB [0, 1, 3, 7, 3, 31, 63, 127, 255, 511, 511, 2047, 511, 511, 16383, 32767, 65535, 131071, 262143, 262143, 1048575, 2097151, 4194303, 8388607, 8388607, 33554431, 67108863, 134217727, 268435455, 268435455, 1073741823, 268435455, 268435455, 8589934591, 17179869183, 34359738367, 68719476735, 137438953471, 274877906943, 137438953471, 1099511627775, 2199023255551, 4398046511103, 8796093022207, 17592186044415, 17592186044415, 70368744177663, 140737488355327, 281474976710655, 562949953421311, 562949953421311, 2251799813685247, 4503599627370495, 9007199254740991, 18014398509481983, 36028797018963967, 18014398509481983, 144115188075855871, 288230376151711743, 576460752303423487, 1152921504606846975] (by kernel_rfl) (by kernel_rfl) (by kernel_rfl) ?_
  refine WK.ret ?_
  obtain rfl := Option.some.inj hR
  exact RetQ.fr [] (.inr rfl) rfl rfl rfl rfl
 ·rw [hb1]; first | replace hR := cond_t hb1 hR | (try simp only [hb1, bb] at hR)
  refine RD.q (.agg (TPrefix.c p0)) ?_
  generalize hc40 : F17_addr_May p0 = c40 at hR
  try dsimp only at hR
  refine RD.callp (r := .bool c40) rfl rfl rfl (f17_ok p0 _ hc40) rfl rfl ?_
  refine RD.q (.agg (TPrefix.c p0)) ?_
  generalize hc42 : F26_crossroadsref03_May p0 = c42 at hR
  try dsimp only at hR
  refine RD.callp (r := .bool c42) rfl rfl rfl (f26_ok p0 _ hc42) rfl rfl ?_
  iterate 2 refine RD.q (.bool (c40 == c42)) ?_
  refine RD.m rfl ?_
  rcases bool_two ((c40 == c42)) with hb2 | hb2
  ·rw [hb2]; try simp only [hb2, bb] at hR
   iterate 7 refine RD.skip rfl rfl ?_
   refine RD.q (.bool false) ?_
   refine RD.m rfl ?_
   iterate 3 refine RD.skip rfl rfl ?_
   refine RD.q (.bool false) ?_
   refine RD.m rfl ?_
   iterate 3 refine RD.skip rfl rfl ?_
   refine RD.q (.bool false) ?_
   refine RD.m rfl ?_
   iterate 7 refine RD.skip rfl rfl ?_
   refine RD.q (.bool false) ?_
   refine RD.m rfl ?_
   iterate 5 refine RD.skip rfl rfl ?_
   refine RD.q (.bool false) ?_
   refine RD.m rfl ?_
   iterate 3 refine RD.skip rfl rfl ?_
   refine RD.q (.bool false) ?_
   refine RD.m rfl ?_
   iterate 3 refine RD.skip rfl rfl ?_
   refine RD.q (.bool false) ?_
   refine RD.m rfl ?_
   iterate 5 refine RD.skip rfl rfl ?_
   refine RD.q (.bool false) ?_
   refine RD.m rfl ?_
   refine RD.doneB [0, 1, 3, 7, 3, 31, 63, 127, 255, 511, 511, 2047, 511, 511, 16383, 32767, 65535, 131071, 262143, 262143, 1048575, 2097151, 4194303, 8388607, 8388607, 33554431, 67108863, 134217727, 268435455, 268435455, 1073741823, 268435455, 268435455, 8589934591, 17179869183, 34359738367, 68719476735, 137438953471, 274877906943, 137438953471, 1099511627775, 2199023255551, 4398046511103, 8796093022207, 17592186044415, 17592186044415, 70368744177663, 140737488355327, 281474976710655, 562949953421311, 562949953421311, 2251799813685247, 4503599627370495, 9007199254740991, 18014398509481983, 36028797018963967, 18014398509481983, 144115188075855871, 288230376151711743, 576460752303423487, 1152921504606846975] (by kernel_rfl) (by kernel_rfl) (by kernel_rfl) ?_
   refine WK.ret ?_
   obtain rfl := Option.some.inj hR
   exact RetQ.fr [] (.inr rfl) rfl rfl rfl rfl
  ·rw [hb2]; try simp only [hb2, bb] at hR
   refine RD.q (.agg (TPrefix.c p0)) ?_
   refine RD.m rfl ?_
   generalize hc48 : F22_addr_Has p0 a1 = c48 at hR
   try dsimp only at hR
   refine RD.callp (r := .bool c48) rfl rfl rfl (f22_ok p0 a1 _ hc48) rfl rfl ?_
   refine RD.q (.agg (TPrefix.c p0)) ?_
   refine RD.m rfl ?_
   generalize hc51 : F27_crossroadsref03_Has p0 a1 = c51 at hR
   try dsimp only at hR
   refine RD.callp (r := .bool c51) rfl rfl rfl (f27_ok p0 a1 _ hc51) rfl rfl ?_
   iterate 2 refine RD.q (.bool (c48 == c51)) ?_
   refine RD.m rfl ?_
   rcases bool_two ((c48 == c51)) with hb3 | hb3
   ·rw [hb3]; try simp only [hb3, bb] at hR
    iterate 3 refine RD.skip rfl rfl ?_
    refine RD.q (.bool false) ?_
    refine RD.m rfl ?_
    iterate 3 refine RD.skip rfl rfl ?_
    refine RD.q (.bool false) ?_
    refine RD.m rfl ?_
    iterate 7 refine RD.skip rfl rfl ?_
    refine RD.q (.bool false) ?_
    refine RD.m rfl ?_
    iterate 5 refine RD.skip rfl rfl ?_
    refine RD.q (.bool false) ?_
    refine RD.m rfl ?_
    iterate 3 refine RD.skip rfl rfl ?_
    refine RD.q (.bool false) ?_
    refine RD.m rfl ?_
    iterate 3 refine RD.skip rfl rfl ?_
    refine RD.q (.bool false) ?_
    refine RD.m rfl ?_
    iterate 5 refine RD.skip rfl rfl ?_
    refine RD.q (.bool false) ?_
    refine RD.m rfl ?_
    refine RD.doneB [0, 1, 3, 7, 3, 31, 63, 127, 255, 511, 511, 2047, 511, 511, 16383, 32767, 65535, 131071, 262143, 262143, 1048575, 2097151, 4194303, 8388607, 8388607, 33554431, 67108863, 134217727, 268435455, 268435455, 1073741823, 268435455, 268435455, 8589934591, 17179869183, 34359738367, 68719476735, 137438953471, 274877906943, 137438953471, 1099511627775, 2199023255551, 4398046511103, 8796093022207, 17592186044415, 17592186044415, 70368744177663, 140737488355327, 281474976710655, 562949953421311, 562949953421311, 2251799813685247, 4503599627370495, 9007199254740991, 18014398509481983, 36028797018963967, 18014398509481983, 144115188075855871, 288230376151711743, 576460752303423487, 1152921504606846975] (by kernel_rfl) (by kernel_rfl) (by kernel_rfl) ?_
    refine WK.ret ?_
    obtain rfl := Option.some.inj hR
    exact RetQ.fr [] (.inr rfl) rfl rfl rfl rfl
   ·rw [hb3]; try simp only [hb3, bb] at hR
    refine RD.q (.agg (TPrefix.c c18a)) ?_
    refine RD.q (.agg (TPrefix.c c24a)) ?_
    iterate 2 refine RD.q (.bool (decide (c18a.A = c24a.A) && (decide (c18a.N = c24a.N) && true))) ?_
    refine RD.m rfl ?_
    rcases bool_two ((decide (c18a.A = c24a.A) && (decide (c18a.N = c24a.N) && true))) with hb4 | hb4
    ·rw [hb4]; try simp only [hb4, bb] at hR
     iterate 3 refine RD.skip rfl rfl ?_
     refine RD.q (.bool false) ?_
     refine RD.m rfl ?_
     iterate 7 refine RD.skip rfl rfl ?_
     refine RD.q (.bool false) ?_
     refine RD.m rfl ?_
     iterate 5 refine RD.skip rfl rfl ?_
     refine RD.q (.bool false) ?_
     refine RD.m rfl ?_
     iterate 3 refine RD.skip rfl rfl ?_
     refine RD.q (.bool false) ?_
     refine RD.m rfl ?_
     iterate 3 refine RD.skip rfl rfl ?_
     refine RD.q (.bool false) ?_
     refine RD.m rfl ?_
     iterate 5 refine RD.skip rfl rfl ?_
     refine RD.q (.bool false) ?_
     refine RD.m rfl ?_
     refine RD.doneB [0, 1, 3, 7, 3, 31, 63, 127, 255, 511, 511, 2047, 511, 511, 16383, 32767, 65535, 131071, 262143, 262143, 1048575, 2097151, 4194303, 8388607, 8388607, 33554431, 67108863, 134217727, 268435455, 268435455, 1073741823, 268435455, 268435455, 8589934591, 17179869183, 34359738367, 68719476735, 137438953471, 274877906943, 137438953471, 1099511627775, 2199023255551, 4398046511103, 8796093022207, 17592186044415, 17592186044415, 70368744177663, 140737488355327, 281474976710655, 562949953421311, 562949953421311, 2251799813685247, 4503599627370495, 9007199254740991, 18014398509481983, 36028797018963967, 18014398509481983, 144115188075855871, 288230376151711743, 576460752303423487, 1152921504606846975] (by kernel_rfl) (by kernel_rfl) (by kernel_rfl) ?_
     refine WK.ret ?_
     obtain rfl := Option.some.inj hR
     exact RetQ.fr [] (.inr rfl) rfl rfl rfl rfl
    ·rw [hb4]; try simp only [hb4, bb] at hR
     iterate 2 refine RD.m rfl ?_
     iterate 2 refine RD.q (.bool (decide (c18b = c24b))) ?_
     refine RD.m rfl ?_
     rcases bool_two (decide (c18b = c24b)) with hb5 | hb5
     ·rw [hb5]; first | replace hR := cond_f hb5 hR | (try simp only [hb5, bb] at hR)
      iterate 7 refine RD.skip rfl rfl ?_
      refine RD.q (.bool false) ?_
      refine RD.m rfl ?_
      iterate 5 refine RD.skip rfl rfl ?_
      refine RD.q (.bool false) ?_
      refine RD.m rfl ?_
      iterate 3 refine RD.skip rfl rfl ?_
      refine RD.q (.bool false) ?_
      refine RD.m rfl ?_
      iterate 3 refine RD.skip rfl rfl ?_
      refine RD.q (.bool false) ?_
      refine RD.m rfl ?_
      iterate 5 refine RD.skip rfl rfl ?_
      refine RD.q (.bool false) ?_
      refine RD.m rfl ?_
      refine RD.doneB [0, 1, 3, 7, 3, 31, 63, 127, 255, 511, 511, 2047, 511, 511, 16383, 32767, 65535, 131071, 262143, 262143, 1048575, 2097151, 4194303, 8388607, 8388607, 33554431, 67108863, 134217727, 268435455, 268435455, 1073741823, 268435455, 268435455, 8589934591, 17179869183, 34359738367, 68719476735, 137438953471, 274877906943, 137438953471, 1099511627775, 2199023255551, 4398046511103, 8796093022207, 17592186044415, 17592186044415, 70368744177663, 140737488355327, 281474976710655, 562949953421311, 562949953421311, 2251799813685247, 4503599627370495, 9007199254740991, 18014398509481983, 36028797018963967, 18014398509481983, 144115188075855871, 288230376151711743, 576460752303423487, 1152921504606846975] (by kernel_rfl) (by kernel_rfl) (by kernel_rfl) ?_
      refine WK.ret ?_
      obtain rfl := Option.some.inj hR
      exact RetQ.fr [] (.inr rfl) rfl rfl rfl rfl
     ·rw [hb5]; first | replace hR := cond_t hb5 hR | (try simp only [hb5, bb] at hR)
      iterate 2 refine RD.m rfl ?_
      generalize hc67 : F28_addr_Bit a1 i2 = c67 at hR
      try dsimp only at hR
      refine RD.callp (r := .int .i64 c67) rfl rfl rfl (f28_ok a1 i2 _ hc67) rfl rfl ?_
      iterate 2 refine RD.m rfl ?_
      generalize hc70 : F29_crossroadsref03_Bit a1 i2 = c70 at hR
      try dsimp only at hR
      refine RD.callp (r := .int .i64 c70) rfl rfl rfl (f29_ok a1 i2 _ hc70) rfl rfl ?_
      iterate 2 refine RD.q (.bool (decide (c67 = c70))) ?_
      refine RD.m rfl ?_
      rcases bool_two (decide (c67 = c70)) with hb6 | hb6
      ·rw [hb6]; first | replace hR := cond_f hb6 hR | (try simp only [hb6, bb] at hR)
       iterate 5 refine RD.skip rfl rfl ?_
       refine RD.q (.bool false) ?_
       refine RD.m rfl ?_
       iterate 3 refine RD.skip rfl rfl ?_
       refine RD.q (.bool false) ?_
       refine RD.m rfl ?_
       iterate 3 refine RD.skip rfl rfl ?_
       refine RD.q (.bool false) ?_
       refine RD.m rfl ?_
       iterate 5 refine RD.skip rfl rfl ?_
       refine RD.q (.bool false) ?_
       refine RD.m rfl ?_
       refine RD.doneB [0, 1, 3, 7, 3, 31, 63, 127, 255, 511, 511, 2047, 511, 511, 16383, 32767, 65535, 131071, 262143, 262143, 1048575, 2097151, 4194303, 8388607, 8388607, 33554431, 67108863, 134217727, 268435455, 268435455, 1073741823, 268435455, 268435455, 8589934591, 17179869183, 34359738367, 68719476735, 137438953471, 274877906943, 137438953471, 1099511627775, 2199023255551, 4398046511103, 8796093022207, 17592186044415, 17592186044415, 70368744177663, 140737488355327, 281474976710655, 562949953421311, 562949953421311, 2251799813685247, 4503599627370495, 9007199254740991, 18014398509481983, 36028797018963967, 18014398509481983, 144115188075855871, 288230376151711743, 576460752303423487, 1152921504606846975] (by kernel_rfl) (by kernel_rfl) (by kernel_rfl) ?_
       refine WK.ret ?_
       obtain rfl := Option.some.inj hR
       exact RetQ.fr [] (.inr rfl) rfl rfl rfl rfl
      ·rw [hb6]; first | replace hR := cond_t hb6 hR | (try simp only [hb6, bb] at hR)
       refine RD.m rfl ?_
       generalize hc75 : F16_addr_Mask i2 = c75 at hR
       try dsimp only at hR
       refine RD.callp (r := .int .u32 c75) rfl rfl rfl (f16_ok i2 _ hc75) rfl rfl ?_
       refine RD.m rfl ?_
       generalize hc77 : F30_crossroadsref03_Mask i2 = c77 at hR
       rcases c77 with _ | c77
       ·try dsimp only at hR
        cases hR
       try dsimp only at hR
       try dsimp only at hR
       refine RD.callp (r := .int .u32 c77) rfl rfl rfl (f30_ok i2 _ hc77) rfl rfl ?_
       iterate 2 refine RD.q (.bool (decide (c75 = c77))) ?_
       refine RD.m rfl ?_
       rcases bool_two (decide (c75 = c77)) with hb7 | hb7
       ·rw [hb7]; first | replace hR := cond_f hb7 hR | (try simp only [hb7, bb] at hR)
        iterate 3 refine RD.skip rfl rfl ?_
        refine RD.q (.bool false) ?_
        refine RD.m rfl ?_
        iterate 3 refine RD.skip rfl rfl ?_
        refine RD.q (.bool false) ?_
        refine RD.m rfl ?_
        iterate 5 refine RD.skip rfl rfl ?_
        refine RD.q (.bool false) ?_
        refine RD.m rfl ?_
        refine RD.doneB [0, 1, 3, 7, 3, 31, 63, 127, 255, 511, 511, 2047, 511, 511, 16383, 32767, 65535, 131071, 262143, 262143, 1048575, 2097151, 4194303, 8388607, 8388607, 33554431, 67108863, 134217727, 268435455, 268435455, 1073741823, 268435455, 268435455, 8589934591, 17179869183, 34359738367, 68719476735, 137438953471, 274877906943, 137438953471, 1099511627775, 2199023255551, 4398046511103, 8796093022207, 17592186044415, 17592186044415, 70368744177663, 140737488355327, 281474976710655, 562949953421311, 562949953421311, 2251799813685247, 4503599627370495, 9007199254740991, 18014398509481983, 36028797018963967, 18014398509481983, 144115188075855871, 288230376151711743, 576460752303423487, 1152921504606846975] (by kernel_rfl) (by kernel_rfl) (by kernel_rfl) ?_
        refine WK.ret ?_
        obtain rfl := Option.some.inj hR
        exact RetQ.fr [] (.inr rfl) rfl rfl rfl rfl
       ·rw [hb7]; first | replace hR := cond_t hb7 hR | (try simp only [hb7, bb] at hR)
        iterate 2 refine RD.m rfl ?_
        iterate 2 refine RD.q (.bool (decide (c29a = c34a))) ?_
        refine RD.m rfl ?_
        rcases bool_two (decide (c29a = c34a)) with hb8 | hb8
        ·rw [hb8]; first | replace hR := cond_f hb8 hR | (try simp only [hb8, bb] at hR)
         iterate 3 refine RD.skip rfl rfl ?_
         refine RD.q (.bool false) ?_
         refine RD.m rfl ?_
         iterate 5 refine RD.skip rfl rfl ?_
         refine RD.q (.bool false) ?_
         refine RD.m rfl ?_
         refine RD.doneB [0, 1, 3, 7, 3, 31, 63, 127, 255, 511, 511, 2047, 511, 511, 16383, 32767, 65535, 131071, 262143, 262143, 1048575, 2097151, 4194303, 8388607, 8388607, 33554431, 67108863, 134217727, 268435455, 268435455, 1073741823, 268435455, 268435455, 8589934591, 17179869183, 34359738367, 68719476735, 137438953471, 274877906943, 137438953471, 1099511627775, 2199023255551, 4398046511103, 8796093022207, 17592186044415, 17592186044415, 70368744177663, 140737488355327, 281474976710655, 562949953421311, 562949953421311, 2251799813685247, 4503599627370495, 9007199254740991, 18014398509481983, 36028797018963967, 18014398509481983, 144115188075855871, 288230376151711743, 576460752303423487, 1152921504606846975] (by kernel_rfl) (by kernel_rfl) (by kernel_rfl) ?_
         refine WK.ret ?_
         obtain rfl := Option.some.inj hR
         exact RetQ.fr [] (.inr rfl) rfl rfl rfl rfl
        ·rw [hb8]; first | replace hR := cond_t hb8 hR | (try simp only [hb8, bb] at hR)
         iterate 2 refine RD.m rfl ?_
         iterate 2 refine RD.q (.bool (decide (c29b = c34b))) ?_
         refine RD.m rfl ?_
         rcases bool_two (decide (c29b = c34b)) with hb9 | hb9
         ·rw [hb9]; first | replace hR := cond_f hb9 hR | (try simp only [hb9, bb] at hR)
          iterate 5 refine RD.skip rfl rfl ?_
          refine RD.q (.bool false) ?_
          refine RD.m rfl ?_
          refine RD.doneB [0, 1, 3, 7, 3, 31, 63, 127, 255, 511, 511, 2047, 511, 511, 16383, 32767, 65535, 131071, 262143, 262143, 1048575, 2097151, 4194303, 8388607, 8388607, 33554431, 67108863, 134217727, 268435455, 268435455, 1073741823, 268435455, 268435455, 8589934591, 17179869183, 34359738367, 68719476735, 137438953471, 274877906943, 137438953471, 1099511627775, 2199023255551, 4398046511103, 8796093022207, 17592186044415, 17592186044415, 70368744177663, 140737488355327, 281474976710655, 562949953421311, 562949953421311, 2251799813685247, 4503599627370495, 9007199254740991, 18014398509481983, 36028797018963967, 18014398509481983, 144115188075855871, 288230376151711743, 576460752303423487, 1152921504606846975] (by kernel_rfl) (by kernel_rfl) (by kernel_rfl) ?_
          refine WK.ret ?_
          obtain rfl := Option.some.inj hR
          exact RetQ.fr [] (.inr rfl) rfl rfl rfl rfl
         ·rw [hb9]; first | replace hR := cond_t hb9 hR | (try simp only [hb9, bb] at hR)
          refine RD.q (.agg (TPrefix.c p0)) ?_
          generalize hc92 : F12_addr_Text p0 = c92 at hR
          rcases c92 with _ | c92
          ·try dsimp only at hR
           cases hR
          try dsimp only at hR
          try dsimp only at hR
          refine RD.callp (r := .str c92) rfl rfl rfl (f12_ok p0 _ hc92) rfl rfl ?_
          refine RD.q (.agg (TPrefix.c p0)) ?_
          generalize hc94 : F31_crossroadsref03_Text p0 = c94 at hR
          rcases c94 with _ | c94
          ·try dsimp only at hR
           cases hR
          try dsimp only at hR
          try dsimp only at hR
          refine RD.callp (r := .str c94) rfl rfl rfl (f31_ok p0 _ hc94) rfl rfl ?_
          iterate 2 refine RD.q (.bool (c92.toList == c94.toList)) ?_
          refine RD.m rfl ?_
          refine RD.doneB [0, 1, 3, 7, 3, 31, 63, 127, 255, 511, 511, 2047, 511, 511, 16383, 32767, 65535, 131071, 262143, 262143, 1048575, 2097151, 4194303, 8388607, 8388607, 33554431, 67108863, 134217727, 268435455, 268435455, 1073741823, 268435455, 268435455, 8589934591, 17179869183, 34359738367, 68719476735, 137438953471, 274877906943, 137438953471, 1099511627775, 2199023255551, 4398046511103, 8796093022207, 17592186044415, 17592186044415, 70368744177663, 140737488355327, 281474976710655, 562949953421311, 562949953421311, 2251799813685247, 4503599627370495, 9007199254740991, 18014398509481983, 36028797018963967, 18014398509481983, 144115188075855871, 288230376151711743, 576460752303423487, 1152921504606846975] (by kernel_rfl) (by kernel_rfl) (by kernel_rfl) ?_
          refine WK.ret ?_
          obtain rfl := Option.some.inj hR
          exact RetQ.fr [] (.inr rfl) rfl rfl rfl rfl

end Go.Proofs.YtkdhongicibhbaaDoor.Abs
