/- The functions walked: each computes its Lean function (printed by this work's own program gen.py). -/
import Derived.Test.YtpcpclbdajebjaaSz
import Derived.Test.YtpcpclbdajebjaaW1
set_option linter.unusedVariables false
set_option linter.unusedSimpArgs false
set_option maxRecDepth 10000
set_option maxHeartbeats 4000000
namespace Go.Proofs.Ytpcpclbdajebjaa.Abs
open Go

theorem f5_ok (a0 : TBase) (b1 : TBase) (R : Bool) (hR : F5_crossroadslaw23_LinkAlike a0 b1 = R) : FnOk Try.prog 5 [.agg (TBase.c a0), .agg (TBase.c b1)] [] 0 (.bool R) [] 0 := by
 refine FnOk.wk i5 rfl rfl ?_
 unfold F5_crossroadslaw23_LinkAlike at hR
 change WK _ _ _ [ac5] _ ⟨[(0, .agg (TBase.c a0)), (1, .agg (TBase.c b1))], [], 0⟩
 unfold ac5
 refine WK.sr mixed ?_
 refine GX.step (v' := .ptr 0 0) (heap' := [(0, .box (TBase.c a0))]) (next' := 1) rfl rfl rfl rfl rfl rfl rfl ?_
 refine GX.step (v' := .ptr 1 0) (heap' := [(0, .box (TBase.c a0)), (1, .box (TBase.c b1))]) (next' := 2) rfl rfl rfl rfl rfl rfl rfl ?_
 refine GX.m rfl ?_
 refine GX.done ?_
 refine WK.seq ?_
 refine WK.sr mixed ?_
 refine GX.q (.agg (TBase.c a0)) ?_
 generalize hc18 : F16_crossroadslaw23_small a0 = c18 at hR
 have hpo0_c18 := post_small a0; rw [hc18] at hpo0_c18
 have hpo1_c18 := post_small2 a0; rw [hc18] at hpo1_c18
 try dsimp only at hR
 refine GX.callp (r := .bool c18) rfl rfl rfl (f16_ok a0 _ hc18) rfl rfl ?_
 refine GX.q (.bool (!c18)) ?_
 refine GX.m rfl ?_
 rcases bool_two (c18) with hb1 | hb1
 ·rw [hb1]; try simp only [hb1, cond_true, cond_false, Bool.true_and, Bool.false_and, Bool.true_or, Bool.false_or, Bool.not_true, Bool.not_false] at hR
  refine GX.skip rfl rfl ?_
  refine GX.skip rfl rfl ?_
  refine GX.skip rfl rfl ?_
  refine GX.q (.bool true) ?_
  refine GX.m rfl ?_
  refine GX.skip rfl rfl ?_
  refine GX.skip rfl rfl ?_
  refine GX.skip rfl rfl ?_
  refine GX.skip rfl rfl ?_
  refine GX.skip rfl rfl ?_
  refine GX.q (.bool true) ?_
  refine GX.done ?_
  refine WK.condT rfl ?_
  refine WK.sr mixed ?_
  generalize hc32 : F11_crossroadslaw23_alive = c32 at hR
  try dsimp only at hR
  refine GX.callp (r := .bool c32) rfl rfl rfl (f11_ok  _ hc32) rfl rfl ?_
  refine GX.m rfl ?_
  refine GX.done ?_
  refine WK.ret ?_
  subst hR
  exact RetQ.fr [] (.inr rfl) rfl rfl rfl rfl
 ·rw [hb1]; try simp only [hb1, cond_true, cond_false, Bool.true_and, Bool.false_and, Bool.true_or, Bool.false_or, Bool.not_true, Bool.not_false] at hR
  try have hq_hpo0_c18 := hpo0_c18 hb1
  try have hq_hpo1_c18 := hpo1_c18 hb1
  refine GX.q (.agg (TBase.c b1)) ?_
  generalize hc22 : F16_crossroadslaw23_small b1 = c22 at hR
  have hpo0_c22 := post_small b1; rw [hc22] at hpo0_c22
  have hpo1_c22 := post_small2 b1; rw [hc22] at hpo1_c22
  try dsimp only at hR
  refine GX.callp (r := .bool c22) rfl rfl rfl (f16_ok b1 _ hc22) rfl rfl ?_
  refine GX.q (.bool (!c22)) ?_
  refine GX.q (.bool (!c22)) ?_
  refine GX.m rfl ?_
  rcases bool_two (c22) with hb2 | hb2
  ·rw [hb2]; try simp only [hb2, cond_true, cond_false, Bool.true_and, Bool.false_and, Bool.true_or, Bool.false_or, Bool.not_true, Bool.not_false] at hR
   refine GX.skip rfl rfl ?_
   refine GX.skip rfl rfl ?_
   refine GX.skip rfl rfl ?_
   refine GX.skip rfl rfl ?_
   refine GX.skip rfl rfl ?_
   refine GX.q (.bool true) ?_
   refine GX.done ?_
   refine WK.condT rfl ?_
   refine WK.sr mixed ?_
   generalize hc32 : F11_crossroadslaw23_alive = c32 at hR
   try dsimp only at hR
   refine GX.callp (r := .bool c32) rfl rfl rfl (f11_ok  _ hc32) rfl rfl ?_
   refine GX.m rfl ?_
   refine GX.done ?_
   refine WK.ret ?_
   subst hR
   exact RetQ.fr [] (.inr rfl) rfl rfl rfl rfl
  ·rw [hb2]; try simp only [hb2, cond_true, cond_false, Bool.true_and, Bool.false_and, Bool.true_or, Bool.false_or, Bool.not_true, Bool.not_false] at hR
   try have hq_hpo0_c22 := hpo0_c22 hb2
   try have hq_hpo1_c22 := hpo1_c22 hb2
   refine GX.q (.ptr 0 0) ?_
   refine GX.q (.int .i64 a0.Level) ?_
   refine GX.q (.ptr 1 0) ?_
   refine GX.q (.int .i64 b1.Level) ?_
   refine GX.q (.bool (!decide (a0.Level = b1.Level))) ?_
   refine GX.q (.bool (!decide (a0.Level = b1.Level))) ?_
   refine GX.done ?_
   rcases bool_two (decide (a0.Level = b1.Level)) with hb3 | hb3
   ·rw [hb3]; try simp only [hb3, cond_true, cond_false, Bool.true_and, Bool.false_and, Bool.true_or, Bool.false_or, Bool.not_true, Bool.not_false] at hR
    refine WK.condT rfl ?_
    refine WK.sr mixed ?_
    generalize hc32 : F11_crossroadslaw23_alive = c32 at hR
    try dsimp only at hR
    refine GX.callp (r := .bool c32) rfl rfl rfl (f11_ok  _ hc32) rfl rfl ?_
    refine GX.m rfl ?_
    refine GX.done ?_
    refine WK.ret ?_
    subst hR
    exact RetQ.fr [] (.inr rfl) rfl rfl rfl rfl
   ·rw [hb3]; try simp only [hb3, cond_true, cond_false, Bool.true_and, Bool.false_and, Bool.true_or, Bool.false_or, Bool.not_true, Bool.not_false] at hR
    refine WK.condF rfl ?_
    refine WK.skip ?_
    refine WK.sr mixed ?_
    refine GX.q (.ptr 0 1) ?_
    refine GX.step0 (heap' := [(0, .box [.int .i64 a0.Level, .int .i64 1000, .ro 7 (a0.L.map TLsp.c), .bool a0.Over]), (1, .box (TBase.c b1))]) (next' := 2) rfl rfl rfl rfl rfl ?_
    refine GX.done ?_
    refine WK.sr mixed ?_
    refine GX.q (.ptr 1 1) ?_
    refine GX.step0 (heap' := [(0, .box [.int .i64 a0.Level, .int .i64 1000, .ro 7 (a0.L.map TLsp.c), .bool a0.Over]), (1, .box [.int .i64 b1.Level, .int .i64 1000, .ro 7 (b1.L.map TLsp.c), .bool b1.Over])]) (next' := 2) rfl rfl rfl rfl rfl ?_
    refine GX.done ?_
    refine WK.sr mixed ?_
    refine GX.m rfl ?_
    refine GX.done ?_
    refine WK.seq ?_
    refine WK.drawn mixed ?_
    refine RD.q (.ptr 0 0) ?_
    refine RD.q (.int .i64 a0.Level) ?_
    refine RD.m rfl ?_
    refine RD.q (.agg [.int .i64 a0.Level, .int .i64 1000, .ro 7 (a0.L.map TLsp.c), .bool a0.Over]) ?_
    refine RD.m rfl ?_
    generalize hc40 : F17_link_List (⟨a0.Level, 1000, a0.L, a0.Over⟩ : TBase) 0 18446744073709551615 = c40 at hR
    have hpo0_c40 := post_List1 (⟨a0.Level, 1000, a0.L, a0.Over⟩ : TBase) 0 18446744073709551615 (by exact SmB.ini (by assumption) _ _ _); rw [hc40] at hpo0_c40
    try dsimp only at hR
    refine RD.callp (r := .ro 4 (c40.map TEntry.c)) rfl rfl rfl (f17_ok (⟨a0.Level, 1000, a0.L, a0.Over⟩ : TBase) 0 18446744073709551615 (by exact SmB.ini (by assumption) _ _ _) _ hc40) rfl rfl ?_
    refine RD.q (.agg [.int .i64 a0.Level, .bool true, .int .u64 0, .int .u64 0, .int .u64 18446744073709551615, .ro 4 (c40.map TEntry.c)]) ?_
    refine RD.step (v' := .ptr 2 0) (heap' := [(0, .box [.int .i64 a0.Level, .int .i64 1000, .ro 7 (a0.L.map TLsp.c), .bool a0.Over]), (1, .box [.int .i64 b1.Level, .int .i64 1000, .ro 7 (b1.L.map TLsp.c), .bool b1.Over]), (2, .box [.int .i64 0, .bool false, .int .u64 0, .int .u64 0, .int .u64 0, .nils])]) (next' := 3) rfl rfl rfl rfl rfl rfl rfl ?_
    refine RD.step0 (heap' := [(0, .box [.int .i64 a0.Level, .int .i64 1000, .ro 7 (a0.L.map TLsp.c), .bool a0.Over]), (1, .box [.int .i64 b1.Level, .int .i64 1000, .ro 7 (b1.L.map TLsp.c), .bool b1.Over]), (2, .box [.int .i64 a0.Level, .bool true, .int .u64 0, .int .u64 0, .int .u64 18446744073709551615, .ro 4 (c40.map TEntry.c)])]) (next' := 3) rfl rfl rfl rfl rfl ?_
    refine RD.done rfl ?_
    refine WK.seq ?_
    refine WK.drawn mixed ?_
    refine RD.q (.ptr 1 0) ?_
    refine RD.q (.int .i64 b1.Level) ?_
    refine RD.m rfl ?_
    refine RD.q (.agg [.int .i64 b1.Level, .int .i64 1000, .ro 7 (b1.L.map TLsp.c), .bool b1.Over]) ?_
    refine RD.m rfl ?_
    generalize hc47 : F17_link_List (⟨b1.Level, 1000, b1.L, b1.Over⟩ : TBase) 0 18446744073709551615 = c47 at hR
    have hpo0_c47 := post_List1 (⟨b1.Level, 1000, b1.L, b1.Over⟩ : TBase) 0 18446744073709551615 (by exact SmB.ini (by assumption) _ _ _); rw [hc47] at hpo0_c47
    try dsimp only at hR
    refine RD.callp (r := .ro 4 (c47.map TEntry.c)) rfl rfl rfl (f17_ok (⟨b1.Level, 1000, b1.L, b1.Over⟩ : TBase) 0 18446744073709551615 (by exact SmB.ini (by assumption) _ _ _) _ hc47) rfl rfl ?_
    refine RD.q (.agg [.int .i64 b1.Level, .bool true, .int .u64 0, .int .u64 0, .int .u64 18446744073709551615, .ro 4 (c47.map TEntry.c)]) ?_
    refine RD.step (v' := .ptr 3 0) (heap' := [(0, .box [.int .i64 a0.Level, .int .i64 1000, .ro 7 (a0.L.map TLsp.c), .bool a0.Over]), (1, .box [.int .i64 b1.Level, .int .i64 1000, .ro 7 (b1.L.map TLsp.c), .bool b1.Over]), (2, .box [.int .i64 a0.Level, .bool true, .int .u64 0, .int .u64 0, .int .u64 18446744073709551615, .ro 4 (c40.map TEntry.c)]), (3, .box [.int .i64 0, .bool false, .int .u64 0, .int .u64 0, .int .u64 0, .nils])]) (next' := 4) rfl rfl rfl rfl rfl rfl rfl ?_
    refine RD.step0 (heap' := [(0, .box [.int .i64 a0.Level, .int .i64 1000, .ro 7 (a0.L.map TLsp.c), .bool a0.Over]), (1, .box [.int .i64 b1.Level, .int .i64 1000, .ro 7 (b1.L.map TLsp.c), .bool b1.Over]), (2, .box [.int .i64 a0.Level, .bool true, .int .u64 0, .int .u64 0, .int .u64 18446744073709551615, .ro 4 (c40.map TEntry.c)]), (3, .box [.int .i64 b1.Level, .bool true, .int .u64 0, .int .u64 0, .int .u64 18446744073709551615, .ro 4 (c47.map TEntry.c)])]) (next' := 4) rfl rfl rfl rfl rfl ?_
    refine RD.done rfl ?_
    refine WK.sr mixed ?_
    refine GX.q (.agg [.int .i64 a0.Level, .int .i64 1000, .ro 7 (a0.L.map TLsp.c), .bool a0.Over]) ?_
    refine GX.q (.agg [.int .i64 b1.Level, .bool true, .int .u64 0, .int .u64 0, .int .u64 18446744073709551615, .ro 4 (c47.map TEntry.c)]) ?_
    generalize hc52 : F18_link_Differ (⟨a0.Level, 1000, a0.L, a0.Over⟩ : TBase) (⟨b1.Level, true, 0, 0, 18446744073709551615, c47⟩ : TList) = c52 at hR
    have hpo0_c52 := post_Differ1 (⟨a0.Level, 1000, a0.L, a0.Over⟩ : TBase) (⟨b1.Level, true, 0, 0, 18446744073709551615, c47⟩ : TList) (by exact SmB.ini (by assumption) _ _ _) (by omega); rw [hc52] at hpo0_c52
    obtain ⟨c52a, c52b⟩ := c52; try dsimp only at hR; try dsimp only at hpo0_c52
    refine GX.callp (r := .tup [.ro 1 (c52a.map c_u64), .ro 4 (c52b.map TEntry.c)]) rfl rfl rfl (f18_ok (⟨a0.Level, 1000, a0.L, a0.Over⟩ : TBase) (⟨b1.Level, true, 0, 0, 18446744073709551615, c47⟩ : TList) (by exact SmB.ini (by assumption) _ _ _) (by omega) _ hc52) rfl rfl ?_
    refine GX.m rfl ?_
    refine GX.q (.ro 1 (c52a.map c_u64)) ?_
    refine GX.q (.ro 4 (c52b.map TEntry.c)) ?_
    refine GX.m rfl ?_
    refine GX.m rfl ?_
    refine GX.done ?_
    refine WK.sr mixed ?_
    refine GX.q (.agg [.int .i64 b1.Level, .int .i64 1000, .ro 7 (b1.L.map TLsp.c), .bool b1.Over]) ?_
    refine GX.q (.agg [.int .i64 a0.Level, .bool true, .int .u64 0, .int .u64 0, .int .u64 18446744073709551615, .ro 4 (c40.map TEntry.c)]) ?_
    generalize hc58 : F18_link_Differ (⟨b1.Level, 1000, b1.L, b1.Over⟩ : TBase) (⟨a0.Level, true, 0, 0, 18446744073709551615, c40⟩ : TList) = c58 at hR
    have hpo0_c58 := post_Differ1 (⟨b1.Level, 1000, b1.L, b1.Over⟩ : TBase) (⟨a0.Level, true, 0, 0, 18446744073709551615, c40⟩ : TList) (by exact SmB.ini (by assumption) _ _ _) (by omega); rw [hc58] at hpo0_c58
    obtain ⟨c58a, c58b⟩ := c58; try dsimp only at hR; try dsimp only at hpo0_c58
    refine GX.callp (r := .tup [.ro 1 (c58a.map c_u64), .ro 4 (c58b.map TEntry.c)]) rfl rfl rfl (f18_ok (⟨b1.Level, 1000, b1.L, b1.Over⟩ : TBase) (⟨a0.Level, true, 0, 0, 18446744073709551615, c40⟩ : TList) (by exact SmB.ini (by assumption) _ _ _) (by omega) _ hc58) rfl rfl ?_
    refine GX.m rfl ?_
    refine GX.q (.ro 1 (c58a.map c_u64)) ?_
    refine GX.q (.ro 4 (c58b.map TEntry.c)) ?_
    refine GX.m rfl ?_
    refine GX.m rfl ?_
    refine GX.done ?_
    refine WK.seq ?_
    refine WK.drawn mixed ?_
    refine RD.q (.agg [.int .i64 a0.Level, .int .i64 1000, .ro 7 (a0.L.map TLsp.c), .bool a0.Over]) ?_
    refine RD.q (.agg [.int .i64 b1.Level, .int .i64 1000, .ro 7 (b1.L.map TLsp.c), .bool b1.Over]) ?_
    refine RD.m rfl ?_
    generalize hc64 : F19_crossroadslaw23_gives (⟨a0.Level, 1000, a0.L, a0.Over⟩ : TBase) (⟨b1.Level, 1000, b1.L, b1.Over⟩ : TBase) c58a = c64 at hR
    have hpo0_c64 := post_gives1 (⟨a0.Level, 1000, a0.L, a0.Over⟩ : TBase) (⟨b1.Level, 1000, b1.L, b1.Over⟩ : TBase) c58a (by exact SmB.ini (by assumption) _ _ _) (by ((try simp only [List.length_append, List.length_cons, List.length_nil, List.length_map, decide_eq_true_eq, decide_eq_false_iff_not] at *) <;> omega)) (by exact SmB.ini (by assumption) _ _ _); rw [hc64] at hpo0_c64
    have hpo1_c64 := post_gives2 (⟨a0.Level, 1000, a0.L, a0.Over⟩ : TBase) (⟨b1.Level, 1000, b1.L, b1.Over⟩ : TBase) c58a (by exact SmB.ini (by assumption) _ _ _) (by ((try simp only [List.length_append, List.length_cons, List.length_nil, List.length_map, decide_eq_true_eq, decide_eq_false_iff_not] at *) <;> omega)) (by exact SmB.ini (by assumption) _ _ _); rw [hc64] at hpo1_c64
    try dsimp only at hR
    refine RD.callp (r := .agg [.int .i64 c64.Level, .int .i64 c64.Max, .ro 7 (c64.L.map TLsp.c), .bool c64.Over]) rfl rfl rfl (f19_ok (⟨a0.Level, 1000, a0.L, a0.Over⟩ : TBase) (⟨b1.Level, 1000, b1.L, b1.Over⟩ : TBase) c58a (by exact SmB.ini (by assumption) _ _ _) (by ((try simp only [List.length_append, List.length_cons, List.length_nil, List.length_map, decide_eq_true_eq, decide_eq_false_iff_not] at *) <;> omega)) (by exact SmB.ini (by assumption) _ _ _) _ hc64) rfl rfl ?_
    refine RD.q (.agg [.int .i64 b1.Level, .int .i64 1000, .ro 7 (b1.L.map TLsp.c), .bool b1.Over]) ?_
    refine RD.m rfl ?_
    generalize hc67 : F20_crossroadslaw23_wanted c52b = c67 at hR
    try dsimp only at hR
    refine RD.callp (r := .ro 1 (c67.map c_u64)) rfl rfl rfl (f20_ok c52b (by omega) _ hc67) rfl rfl ?_
    generalize hc68 : F19_crossroadslaw23_gives c64 (⟨b1.Level, 1000, b1.L, b1.Over⟩ : TBase) c67 = c68 at hR
    have hpo0_c68 := post_gives1 c64 (⟨b1.Level, 1000, b1.L, b1.Over⟩ : TBase) c67 (by omega) (by omega) (by exact SmB.ini (by assumption) _ _ _); rw [hc68] at hpo0_c68
    have hpo1_c68 := post_gives2 c64 (⟨b1.Level, 1000, b1.L, b1.Over⟩ : TBase) c67 (by omega) (by omega) (by exact SmB.ini (by assumption) _ _ _); rw [hc68] at hpo1_c68
    try dsimp only at hR
    refine RD.callp (r := .agg [.int .i64 c68.Level, .int .i64 c68.Max, .ro 7 (c68.L.map TLsp.c), .bool c68.Over]) rfl rfl rfl (f19_ok c64 (⟨b1.Level, 1000, b1.L, b1.Over⟩ : TBase) c67 (by omega) (by omega) (by exact SmB.ini (by assumption) _ _ _) _ hc68) rfl rfl ?_
    refine RD.step (v' := .ptr 4 0) (heap' := [(0, .box [.int .i64 a0.Level, .int .i64 1000, .ro 7 (a0.L.map TLsp.c), .bool a0.Over]), (1, .box [.int .i64 b1.Level, .int .i64 1000, .ro 7 (b1.L.map TLsp.c), .bool b1.Over]), (2, .box [.int .i64 a0.Level, .bool true, .int .u64 0, .int .u64 0, .int .u64 18446744073709551615, .ro 4 (c40.map TEntry.c)]), (3, .box [.int .i64 b1.Level, .bool true, .int .u64 0, .int .u64 0, .int .u64 18446744073709551615, .ro 4 (c47.map TEntry.c)]), (4, .box [.int .i64 0, .int .i64 0, .nils, .bool false])]) (next' := 5) rfl rfl rfl rfl rfl rfl rfl ?_
    refine RD.step0 (heap' := [(0, .box [.int .i64 a0.Level, .int .i64 1000, .ro 7 (a0.L.map TLsp.c), .bool a0.Over]), (1, .box [.int .i64 b1.Level, .int .i64 1000, .ro 7 (b1.L.map TLsp.c), .bool b1.Over]), (2, .box [.int .i64 a0.Level, .bool true, .int .u64 0, .int .u64 0, .int .u64 18446744073709551615, .ro 4 (c40.map TEntry.c)]), (3, .box [.int .i64 b1.Level, .bool true, .int .u64 0, .int .u64 0, .int .u64 18446744073709551615, .ro 4 (c47.map TEntry.c)]), (4, .box (TBase.c c68))]) (next' := 5) rfl rfl rfl rfl rfl ?_
    refine RD.done rfl ?_
    refine WK.seq ?_
    refine WK.drawn mixed ?_
    refine RD.q (.agg [.int .i64 b1.Level, .int .i64 1000, .ro 7 (b1.L.map TLsp.c), .bool b1.Over]) ?_
    refine RD.q (.agg [.int .i64 a0.Level, .int .i64 1000, .ro 7 (a0.L.map TLsp.c), .bool a0.Over]) ?_
    refine RD.m rfl ?_
    generalize hc72 : F19_crossroadslaw23_gives (⟨b1.Level, 1000, b1.L, b1.Over⟩ : TBase) (⟨a0.Level, 1000, a0.L, a0.Over⟩ : TBase) c52a = c72 at hR
    have hpo0_c72 := post_gives1 (⟨b1.Level, 1000, b1.L, b1.Over⟩ : TBase) (⟨a0.Level, 1000, a0.L, a0.Over⟩ : TBase) c52a (by exact SmB.ini (by assumption) _ _ _) (by ((try simp only [List.length_append, List.length_cons, List.length_nil, List.length_map, decide_eq_true_eq, decide_eq_false_iff_not] at *) <;> omega)) (by exact SmB.ini (by assumption) _ _ _); rw [hc72] at hpo0_c72
    have hpo1_c72 := post_gives2 (⟨b1.Level, 1000, b1.L, b1.Over⟩ : TBase) (⟨a0.Level, 1000, a0.L, a0.Over⟩ : TBase) c52a (by exact SmB.ini (by assumption) _ _ _) (by ((try simp only [List.length_append, List.length_cons, List.length_nil, List.length_map, decide_eq_true_eq, decide_eq_false_iff_not] at *) <;> omega)) (by exact SmB.ini (by assumption) _ _ _); rw [hc72] at hpo1_c72
    try dsimp only at hR
    refine RD.callp (r := .agg [.int .i64 c72.Level, .int .i64 c72.Max, .ro 7 (c72.L.map TLsp.c), .bool c72.Over]) rfl rfl rfl (f19_ok (⟨b1.Level, 1000, b1.L, b1.Over⟩ : TBase) (⟨a0.Level, 1000, a0.L, a0.Over⟩ : TBase) c52a (by exact SmB.ini (by assumption) _ _ _) (by ((try simp only [List.length_append, List.length_cons, List.length_nil, List.length_map, decide_eq_true_eq, decide_eq_false_iff_not] at *) <;> omega)) (by exact SmB.ini (by assumption) _ _ _) _ hc72) rfl rfl ?_
    refine RD.q (.agg [.int .i64 a0.Level, .int .i64 1000, .ro 7 (a0.L.map TLsp.c), .bool a0.Over]) ?_
    refine RD.m rfl ?_
    generalize hc75 : F20_crossroadslaw23_wanted c58b = c75 at hR
    try dsimp only at hR
    refine RD.callp (r := .ro 1 (c75.map c_u64)) rfl rfl rfl (f20_ok c58b (by omega) _ hc75) rfl rfl ?_
    generalize hc76 : F19_crossroadslaw23_gives c72 (⟨a0.Level, 1000, a0.L, a0.Over⟩ : TBase) c75 = c76 at hR
    have hpo0_c76 := post_gives1 c72 (⟨a0.Level, 1000, a0.L, a0.Over⟩ : TBase) c75 (by omega) (by omega) (by exact SmB.ini (by assumption) _ _ _); rw [hc76] at hpo0_c76
    have hpo1_c76 := post_gives2 c72 (⟨a0.Level, 1000, a0.L, a0.Over⟩ : TBase) c75 (by omega) (by omega) (by exact SmB.ini (by assumption) _ _ _); rw [hc76] at hpo1_c76
    try dsimp only at hR
    refine RD.callp (r := .agg [.int .i64 c76.Level, .int .i64 c76.Max, .ro 7 (c76.L.map TLsp.c), .bool c76.Over]) rfl rfl rfl (f19_ok c72 (⟨a0.Level, 1000, a0.L, a0.Over⟩ : TBase) c75 (by omega) (by omega) (by exact SmB.ini (by assumption) _ _ _) _ hc76) rfl rfl ?_
    refine RD.step (v' := .ptr 5 0) (heap' := [(0, .box [.int .i64 a0.Level, .int .i64 1000, .ro 7 (a0.L.map TLsp.c), .bool a0.Over]), (1, .box [.int .i64 b1.Level, .int .i64 1000, .ro 7 (b1.L.map TLsp.c), .bool b1.Over]), (2, .box [.int .i64 a0.Level, .bool true, .int .u64 0, .int .u64 0, .int .u64 18446744073709551615, .ro 4 (c40.map TEntry.c)]), (3, .box [.int .i64 b1.Level, .bool true, .int .u64 0, .int .u64 0, .int .u64 18446744073709551615, .ro 4 (c47.map TEntry.c)]), (4, .box (TBase.c c68)), (5, .box [.int .i64 0, .int .i64 0, .nils, .bool false])]) (next' := 6) rfl rfl rfl rfl rfl rfl rfl ?_
    refine RD.step0 (heap' := [(0, .box [.int .i64 a0.Level, .int .i64 1000, .ro 7 (a0.L.map TLsp.c), .bool a0.Over]), (1, .box [.int .i64 b1.Level, .int .i64 1000, .ro 7 (b1.L.map TLsp.c), .bool b1.Over]), (2, .box [.int .i64 a0.Level, .bool true, .int .u64 0, .int .u64 0, .int .u64 18446744073709551615, .ro 4 (c40.map TEntry.c)]), (3, .box [.int .i64 b1.Level, .bool true, .int .u64 0, .int .u64 0, .int .u64 18446744073709551615, .ro 4 (c47.map TEntry.c)]), (4, .box (TBase.c c68)), (5, .box (TBase.c c76))]) (next' := 6) rfl rfl rfl rfl rfl ?_
    refine RD.done rfl ?_
    refine WK.seq ?_
    refine WK.drawn mixed ?_
    refine RD.q (.agg (TBase.c c68)) ?_
    refine RD.m rfl ?_
    generalize hc79 : F17_link_List c68 0 18446744073709551615 = c79 at hR
    have hpo0_c79 := post_List1 c68 0 18446744073709551615 (by omega); rw [hc79] at hpo0_c79
    try dsimp only at hR
    refine RD.callp (r := .ro 4 (c79.map TEntry.c)) rfl rfl rfl (f17_ok c68 0 18446744073709551615 (by omega) _ hc79) rfl rfl ?_
    refine RD.q (.agg (TBase.c c76)) ?_
    refine RD.m rfl ?_
    generalize hc82 : F17_link_List c76 0 18446744073709551615 = c82 at hR
    have hpo0_c82 := post_List1 c76 0 18446744073709551615 (by omega); rw [hc82] at hpo0_c82
    try dsimp only at hR
    refine RD.callp (r := .ro 4 (c82.map TEntry.c)) rfl rfl rfl (f17_ok c76 0 18446744073709551615 (by omega) _ hc82) rfl rfl ?_
    refine RD.m rfl ?_
    refine RD.m rfl ?_
    refine RD.done rfl ?_
    refine WK.seq ?_
    refine WK.sr mixed ?_
    refine GX.m rfl ?_
    refine GX.pure (v' := .int .i64 (c79.length : Int)) rfl rfl rfl rfl (len_map _ _) ?_
    refine GX.m rfl ?_
    refine GX.pure (v' := .int .i64 (c82.length : Int)) rfl rfl rfl rfl (len_map _ _) ?_
    refine GX.q (.bool (!decide ((c79.length : Int) = (c82.length : Int)))) ?_
    refine GX.done ?_
    rcases bool_two (decide ((c79.length : Int) = (c82.length : Int))) with hb4 | hb4
    ·rw [hb4]; try simp only [hb4, cond_true, cond_false, Bool.true_and, Bool.false_and, Bool.true_or, Bool.false_or, Bool.not_true, Bool.not_false] at hR
     refine WK.condT rfl ?_
     refine WK.sr mixed ?_
     refine GX.m rfl ?_
     refine GX.done ?_
     refine WK.ret ?_
     subst hR
     exact RetQ.fr [] (.inr rfl) rfl rfl rfl rfl
    ·rw [hb4]; try simp only [hb4, cond_true, cond_false, Bool.true_and, Bool.false_and, Bool.true_or, Bool.false_or, Bool.not_true, Bool.not_false] at hR
     refine WK.condF rfl ?_
     refine WK.skip ?_
     refine WK.seq ?_
     refine WK.sr mixed ?_
     refine GX.m rfl ?_
     refine GX.done ?_
     refine WK.len (t := 79) rfl (by simp) (fun hlen_5 => ?_)
     rw [List.length_map] at hlen_5
     generalize hZ_5 : F5_crossroadslaw23_LinkAlike_l1 c82 0 c79 = Z_5 at hR
     refine WK.forK (fun k s => ∃ (i16 : Nat), i16 ≤ c79.length ∧ k = c79.length - i16 ∧ F5_crossroadslaw23_LinkAlike_l1 c82 i16 (c79.drop i16) = Z_5 ∧ s = ⟨[(2, .ptr 0 0), (3, .ptr 1 0), (12, .ptr 2 0), (13, .ptr 3 0), (14, .ro 4 (c79.map TEntry.c)), (15, .ro 4 (c82.map TEntry.c)), (16, .int .i64 (i16 : Int))], [(0, .box [.int .i64 a0.Level, .int .i64 1000, .ro 7 (a0.L.map TLsp.c), .bool a0.Over]), (1, .box [.int .i64 b1.Level, .int .i64 1000, .ro 7 (b1.L.map TLsp.c), .bool b1.Over]), (2, .box (TBase.c c68)), (3, .box (TBase.c c76))], 4⟩) c79.length ⟨⟨[(2, .ptr 0 0), (3, .ptr 1 0), (12, .ptr 2 0), (13, .ptr 3 0), (14, .ro 4 (c79.map TEntry.c)), (15, .ro 4 (c82.map TEntry.c)), (16, .int .i64 (0 : Int))], [(0, .box [.int .i64 a0.Level, .int .i64 1000, .ro 7 (a0.L.map TLsp.c), .bool a0.Over]), (1, .box [.int .i64 b1.Level, .int .i64 1000, .ro 7 (b1.L.map TLsp.c), .bool b1.Over]), (2, .box (TBase.c c68)), (3, .box (TBase.c c76))], 4⟩, Conv.keep [0, 1, 4, 5] [] [2, 3, 12, 13, 14, 15, 16] rfl rfl (viewE_cons rfl rfl (viewE_cons rfl rfl (viewE_cons rfl rfl (viewE_cons rfl rfl (viewE_cons rfl rfl (viewE_cons rfl rfl (viewE_cons rfl rfl viewE_nil))))))) rfl rfl, 0, (by omega), rfl, hZ_5, rfl⟩ ?_
     rintro _ _ ⟨i16, hi_5, rfl, hL_5, rfl⟩ again_5 out_5 Q_5 hagain_5 hout_5 hQ_5
     refine WK.seq ?_
     refine WK.sr mixed ?_
     refine GX.m rfl ?_
     refine GX.m rfl ?_
     refine GX.pure (v' := .int .i64 (c79.length : Int)) rfl rfl rfl rfl (len_map _ _) ?_
     refine GX.q (.bool (decide ((i16 : Int) < (c79.length : Int)))) ?_
     refine GX.done ?_
     rcases bool_two (decide ((i16 : Int) < (c79.length : Int))) with hb6 | hb6
     ·rw [hb6]
      rw [drop_end hb6, F5_crossroadslaw23_LinkAlike_l1] at hL_5
      refine WK.condF rfl ?_
      refine WK.exit ?_
      refine QF.exit (hout_5 _ ?_)
      subst hL_5
      try dsimp only [cond_true, cond_false] at hR
      refine WK.sr mixed ?_
      generalize hc117 : F11_crossroadslaw23_alive = c117 at hR
      try dsimp only at hR
      refine GX.callp (r := .bool c117) rfl rfl rfl (f11_ok  _ hc117) rfl rfl ?_
      refine GX.m rfl ?_
      rcases bool_two (c117) with hb7 | hb7
      ·rw [hb7]; try simp only [hb7, cond_true, cond_false, Bool.true_and, Bool.false_and, Bool.true_or, Bool.false_or, Bool.not_true, Bool.not_false] at hR
       refine GX.skip rfl rfl ?_
       refine GX.skip rfl rfl ?_
       refine GX.skip rfl rfl ?_
       refine GX.skip rfl rfl ?_
       refine GX.skip rfl rfl ?_
       refine GX.skip rfl rfl ?_
       refine GX.skip rfl rfl ?_
       refine GX.q (.bool false) ?_
       refine GX.m rfl ?_
       refine GX.skip rfl rfl ?_
       refine GX.skip rfl rfl ?_
       refine GX.skip rfl rfl ?_
       refine GX.skip rfl rfl ?_
       refine GX.skip rfl rfl ?_
       refine GX.skip rfl rfl ?_
       refine GX.skip rfl rfl ?_
       refine GX.q (.bool false) ?_
       refine GX.m rfl ?_
       refine GX.done ?_
       refine WK.ret ?_
       subst hR
       exact RetQ.fr [] (.inr rfl) rfl rfl rfl rfl
      ·rw [hb7]; try simp only [hb7, cond_true, cond_false, Bool.true_and, Bool.false_and, Bool.true_or, Bool.false_or, Bool.not_true, Bool.not_false] at hR
       refine GX.q (.ptr 2 3) ?_
       refine GX.q (.bool c68.Over) ?_
       refine GX.q (.bool (!c68.Over)) ?_
       refine GX.q (.ptr 0 3) ?_
       refine GX.q (.bool a0.Over) ?_
       refine GX.q (.bool (!a0.Over)) ?_
       refine GX.q (.bool ((!c68.Over) == (!a0.Over))) ?_
       refine GX.q (.bool ((!c68.Over) == (!a0.Over))) ?_
       refine GX.m rfl ?_
       rcases bool_two (((!c68.Over) == (!a0.Over))) with hb8 | hb8
       ·rw [hb8]; try simp only [hb8, cond_true, cond_false, Bool.true_and, Bool.false_and, Bool.true_or, Bool.false_or, Bool.not_true, Bool.not_false] at hR
        refine GX.skip rfl rfl ?_
        refine GX.skip rfl rfl ?_
        refine GX.skip rfl rfl ?_
        refine GX.skip rfl rfl ?_
        refine GX.skip rfl rfl ?_
        refine GX.skip rfl rfl ?_
        refine GX.skip rfl rfl ?_
        refine GX.q (.bool false) ?_
        refine GX.m rfl ?_
        refine GX.done ?_
        refine WK.ret ?_
        subst hR
        exact RetQ.fr [] (.inr rfl) rfl rfl rfl rfl
       ·rw [hb8]; try simp only [hb8, cond_true, cond_false, Bool.true_and, Bool.false_and, Bool.true_or, Bool.false_or, Bool.not_true, Bool.not_false] at hR
        refine GX.q (.ptr 3 3) ?_
        refine GX.q (.bool c76.Over) ?_
        refine GX.q (.bool (!c76.Over)) ?_
        refine GX.q (.ptr 1 3) ?_
        refine GX.q (.bool b1.Over) ?_
        refine GX.q (.bool (!b1.Over)) ?_
        refine GX.q (.bool ((!c76.Over) == (!b1.Over))) ?_
        refine GX.q (.bool ((!c76.Over) == (!b1.Over))) ?_
        refine GX.m rfl ?_
        refine GX.done ?_
        refine WK.ret ?_
        subst hR
        exact RetQ.fr [] (.inr rfl) rfl rfl rfl rfl
     ·rw [hb6]
      obtain ⟨x16, hx5, hd5, hlt5⟩ := drop_more hb6
      rw [hd5, F5_crossroadslaw23_LinkAlike_l1] at hL_5
      refine WK.condT rfl ?_
      refine WK.skip ?_
      refine WK.seq ?_
      refine WK.blockK (fun _ hK9 => ?_)
      refine WK.seq ?_
      refine WK.drawn mixed ?_
      refine RD.m rfl ?_
      refine RD.m rfl ?_
      refine RD.idxT (c := TEntry.c) (x := x16) rfl rfl rfl (Int.natCast_nonneg _) hx5 ?_
      refine RD.q (.rptr [.int .u64 x16.ID, .int .u32 x16.Seq, .int .i64 x16.Sum]) ?_
      refine RD.q (.int .u64 x16.ID) ?_
      refine RD.m rfl ?_
      refine RD.m rfl ?_
      refine RD.idxT (c := TEntry.c) (x := (c82.getD i16 default)) rfl rfl rfl (Int.natCast_nonneg _) (getD_at (by ((try simp only [decide_eq_true_eq] at *); first | omega | (rw [wrap64_of (by omega) (by omega)]; omega)))) ?_
      refine RD.q (.rptr [.int .u64 ((c82.getD i16 default).ID), .int .u32 ((c82.getD i16 default).Seq), .int .i64 ((c82.getD i16 default).Sum)]) ?_
      refine RD.q (.int .u64 ((c82.getD i16 default).ID)) ?_
      refine RD.q (.bool (!decide (x16.ID = (c82.getD i16 default).ID))) ?_
      refine RD.m rfl ?_
      rcases bool_two (decide (x16.ID = (c82.getD i16 default).ID)) with hb10 | hb10
      ·rw [hb10]; try simp only [hb10, cond_true, cond_false, Bool.true_and, Bool.false_and, Bool.true_or, Bool.false_or, Bool.not_true, Bool.not_false] at hL_5
       refine RD.skip rfl rfl ?_
       refine RD.skip rfl rfl ?_
       refine RD.skip rfl rfl ?_
       refine RD.skip rfl rfl ?_
       refine RD.skip rfl rfl ?_
       refine RD.skip rfl rfl ?_
       refine RD.skip rfl rfl ?_
       refine RD.skip rfl rfl ?_
       refine RD.skip rfl rfl ?_
       refine RD.skip rfl rfl ?_
       refine RD.q (.bool true) ?_
       refine RD.done rfl ?_
       refine WK.condT rfl ?_
       refine WK.sr mixed ?_
       refine GX.m rfl ?_
       refine GX.done ?_
       refine WK.ret ?_
       refine QF.ret ?_
       refine QF.ret (hQ_5 _ _ ?_)
       subst hL_5
       subst hR
       exact RetQ.fr [] (.inr rfl) rfl rfl rfl rfl
      ·rw [hb10]; try simp only [hb10, cond_true, cond_false, Bool.true_and, Bool.false_and, Bool.true_or, Bool.false_or, Bool.not_true, Bool.not_false] at hL_5
       refine RD.m rfl ?_
       refine RD.m rfl ?_
       refine RD.idxT (c := TEntry.c) (x := x16) rfl rfl rfl (Int.natCast_nonneg _) hx5 ?_
       refine RD.q (.agg (TEntry.c x16)) ?_
       refine RD.m rfl ?_
       refine RD.m rfl ?_
       refine RD.idxT (c := TEntry.c) (x := (c82.getD i16 default)) rfl rfl rfl (Int.natCast_nonneg _) (getD_at (by ((try simp only [decide_eq_true_eq] at *); first | omega | (rw [wrap64_of (by omega) (by omega)]; omega)))) ?_
       refine RD.q (.agg [.int .i64 ((c82.getD i16 default).Life), .int .u64 ((c82.getD i16 default).ID), .int .u32 ((c82.getD i16 default).Seq), .int .i64 ((c82.getD i16 default).Sum)]) ?_
       generalize hc114 : F8_link_Compare x16 (c82.getD i16 default) = c114 at hL_5
       try dsimp only at hL_5
       refine RD.callp (r := .int .i64 c114) rfl rfl rfl (f8_ok x16 (c82.getD i16 default) _ hc114) rfl rfl ?_
       refine RD.q (.bool (!decide (c114 = 0))) ?_
       refine RD.q (.bool (!decide (c114 = 0))) ?_
       refine RD.done rfl ?_
       rcases bool_two (decide (c114 = 0)) with hb11 | hb11
       ·rw [hb11]; try simp only [hb11, cond_true, cond_false, Bool.true_and, Bool.false_and, Bool.true_or, Bool.false_or, Bool.not_true, Bool.not_false] at hL_5
        refine WK.condT rfl ?_
        refine WK.sr mixed ?_
        refine GX.m rfl ?_
        refine GX.done ?_
        refine WK.ret ?_
        refine QF.ret ?_
        refine QF.ret (hQ_5 _ _ ?_)
        subst hL_5
        subst hR
        exact RetQ.fr [] (.inr rfl) rfl rfl rfl rfl
       ·rw [hb11]; try simp only [hb11, cond_true, cond_false, Bool.true_and, Bool.false_and, Bool.true_or, Bool.false_or, Bool.not_true, Bool.not_false] at hL_5
        refine WK.condF rfl ?_
        refine WK.skip ?_
        refine WK.nil (QF.normal (hK9 _ ?_))
        refine WK.regx mixed ?_
        refine GX.m rfl ?_
        refine GX.pure (v' := .int .i64 ((i16 + 1 : Nat) : Int)) rfl rfl rfl rfl (congrArg (PVal.int .i64) (wrap_up hlt5 hlen_5)) ?_
        refine GX.m rfl ?_
        refine GX.done ?_
        refine WK.nil (QF.normal ?_)
        exact hagain_5 _ (c79.length - (i16 + 1)) ⟨[(2, .ptr 0 0), (3, .ptr 1 0), (12, .ptr 2 0), (13, .ptr 3 0), (14, .ro 4 (c79.map TEntry.c)), (15, .ro 4 (c82.map TEntry.c)), (16, .int .i64 ((i16 + 1) : Int))], [(0, .box [.int .i64 a0.Level, .int .i64 1000, .ro 7 (a0.L.map TLsp.c), .bool a0.Over]), (1, .box [.int .i64 b1.Level, .int .i64 1000, .ro 7 (b1.L.map TLsp.c), .bool b1.Over]), (2, .box (TBase.c c68)), (3, .box (TBase.c c76))], 4⟩ (by omega) (Conv.keep [0, 1, 2, 3] [] [2, 3, 12, 13, 14, 15, 16] rfl rfl (viewE_cons rfl rfl (viewE_cons rfl rfl (viewE_cons rfl rfl (viewE_cons rfl rfl (viewE_cons rfl rfl (viewE_cons rfl rfl (viewE_cons rfl rfl viewE_nil))))))) rfl rfl) ⟨i16 + 1, (by omega), rfl, hL_5, rfl⟩

end Go.Proofs.Ytpcpclbdajebjaa.Abs
