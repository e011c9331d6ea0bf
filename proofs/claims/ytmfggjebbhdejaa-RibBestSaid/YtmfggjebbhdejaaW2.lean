/- The functions walked: each computes its Lean function (printed by this work's own program gen.py). -/
import Derived.Test.YtmfggjebbhdejaaSo
import Derived.Test.YtmfggjebbhdejaaW1
set_option linter.unusedVariables false
set_option linter.unusedSimpArgs false
set_option maxRecDepth 10000
set_option maxHeartbeats 4000000
namespace Go.Proofs.Ytmfggjebbhdejaa.Abs
open Go

theorem f22_ok (a0 : TCand) (b1 : TCand) (R : Bool) (hR : F22_crossroadsref25_Same a0 b1 = R) : FnOk Try.prog 22 [.agg (TCand.c a0), .agg (TCand.c b1)] [] 0 (.bool R) [] 0 := by
 refine FnOk.wk i22 rfl rfl ?_
 unfold F22_crossroadsref25_Same at hR
 change WK _ _ _ [ac22] _ ⟨[(0, .agg (TCand.c a0)), (1, .agg (TCand.c b1))], [], 0⟩
 unfold ac22
 refine WK.sr mixed ?_
 refine GX.step (v' := .ptr 0 0) (heap' := [(0, .box (TCand.c a0))]) (next' := 1) rfl rfl rfl rfl rfl rfl rfl ?_
 refine GX.step (v' := .ptr 1 0) (heap' := [(0, .box (TCand.c a0)), (1, .box (TCand.c b1))]) (next' := 2) rfl rfl rfl rfl rfl rfl rfl ?_
 refine GX.m rfl ?_
 refine GX.done ?_
 refine WK.seq ?_
 refine WK.drawn mixed ?_
 refine RD.q (.agg (TCand.c a0)) ?_
 generalize hc6 : F33_crossroadsref25_key a0 = c6 at hR
 try dsimp only at hR
 refine RD.callp (r := .agg [.int .i64 c6.e0, .int .i64 c6.e1, .int .i64 c6.e2, .int .i64 c6.e3, .int .i64 c6.e4, .int .i64 c6.e5]) rfl rfl rfl (f33_ok a0 _ hc6) rfl rfl ?_
 refine RD.q (.agg (TCand.c b1)) ?_
 generalize hc8 : F33_crossroadsref25_key b1 = c8 at hR
 try dsimp only at hR
 refine RD.callp (r := .agg [.int .i64 c8.e0, .int .i64 c8.e1, .int .i64 c8.e2, .int .i64 c8.e3, .int .i64 c8.e4, .int .i64 c8.e5]) rfl rfl rfl (f33_ok b1 _ hc8) rfl rfl ?_
 refine RD.q (.bool (decide (c6.e0 = c8.e0) && (decide (c6.e1 = c8.e1) && (decide (c6.e2 = c8.e2) && (decide (c6.e3 = c8.e3) && (decide (c6.e4 = c8.e4) && (decide (c6.e5 = c8.e5) && true))))))) ?_
 refine RD.m rfl ?_
 rcases bool_two ((decide (c6.e0 = c8.e0) && (decide (c6.e1 = c8.e1) && (decide (c6.e2 = c8.e2) && (decide (c6.e3 = c8.e3) && (decide (c6.e4 = c8.e4) && (decide (c6.e5 = c8.e5) && true))))))) with hb1 | hb1
 ·rw [hb1]; try simp only [hb1, bb] at hR
  iterate 5 refine RD.skip rfl rfl ?_
  refine RD.q (.bool false) ?_
  refine RD.m rfl ?_
  iterate 5 refine RD.skip rfl rfl ?_
  refine RD.q (.bool false) ?_
  refine RD.m rfl ?_
  iterate 5 refine RD.skip rfl rfl ?_
  refine RD.q (.bool false) ?_
  refine RD.m rfl ?_
  iterate 5 refine RD.skip rfl rfl ?_
  refine RD.q (.bool false) ?_
  refine RD.m rfl ?_
  refine RD.doneB [0, 1, 0, 7, 15, 31, 63, 127, 63, 319, 1023, 2047, 4095, 8191, 16383, 8191, 40959, 131071, 262143, 524287, 1048575, 2097151, 1048575, 5242879, 16777215, 33554431, 67108863, 134217727, 268435455, 134217727, 671088639, 2147483647, 4294967295, 8589934591] (by kernel_rfl) (by kernel_rfl) (by kernel_rfl) ?_
  refine WK.ret ?_
  subst hR
  exact RetQ.fr [] (.inr rfl) rfl rfl rfl rfl
 ·rw [hb1]; try simp only [hb1, bb] at hR
  refine RD.q (.ptr 0 4) ?_
  refine RD.q (.int .i64 a0.Dist) ?_
  refine RD.q (.ptr 1 4) ?_
  refine RD.q (.int .i64 b1.Dist) ?_
  iterate 2 refine RD.q (.bool (decide (a0.Dist = b1.Dist))) ?_
  refine RD.m rfl ?_
  rcases bool_two (decide (a0.Dist = b1.Dist)) with hb2 | hb2
  ·rw [hb2]; try simp only [hb2, bb] at hR
   iterate 5 refine RD.skip rfl rfl ?_
   refine RD.q (.bool false) ?_
   refine RD.m rfl ?_
   iterate 5 refine RD.skip rfl rfl ?_
   refine RD.q (.bool false) ?_
   refine RD.m rfl ?_
   iterate 5 refine RD.skip rfl rfl ?_
   refine RD.q (.bool false) ?_
   refine RD.m rfl ?_
   refine RD.doneB [0, 1, 0, 7, 15, 31, 63, 127, 63, 319, 1023, 2047, 4095, 8191, 16383, 8191, 40959, 131071, 262143, 524287, 1048575, 2097151, 1048575, 5242879, 16777215, 33554431, 67108863, 134217727, 268435455, 134217727, 671088639, 2147483647, 4294967295, 8589934591] (by kernel_rfl) (by kernel_rfl) (by kernel_rfl) ?_
   refine WK.ret ?_
   subst hR
   exact RetQ.fr [] (.inr rfl) rfl rfl rfl rfl
  ·rw [hb2]; try simp only [hb2, bb] at hR
   refine RD.q (.ptr 0 5) ?_
   refine RD.q (.int .i64 a0.Metric) ?_
   refine RD.q (.ptr 1 5) ?_
   refine RD.q (.int .i64 b1.Metric) ?_
   iterate 2 refine RD.q (.bool (decide (a0.Metric = b1.Metric))) ?_
   refine RD.m rfl ?_
   rcases bool_two (decide (a0.Metric = b1.Metric)) with hb3 | hb3
   ·rw [hb3]; try simp only [hb3, bb] at hR
    iterate 5 refine RD.skip rfl rfl ?_
    refine RD.q (.bool false) ?_
    refine RD.m rfl ?_
    iterate 5 refine RD.skip rfl rfl ?_
    refine RD.q (.bool false) ?_
    refine RD.m rfl ?_
    refine RD.doneB [0, 1, 0, 7, 15, 31, 63, 127, 63, 319, 1023, 2047, 4095, 8191, 16383, 8191, 40959, 131071, 262143, 524287, 1048575, 2097151, 1048575, 5242879, 16777215, 33554431, 67108863, 134217727, 268435455, 134217727, 671088639, 2147483647, 4294967295, 8589934591] (by kernel_rfl) (by kernel_rfl) (by kernel_rfl) ?_
    refine WK.ret ?_
    subst hR
    exact RetQ.fr [] (.inr rfl) rfl rfl rfl rfl
   ·rw [hb3]; try simp only [hb3, bb] at hR
    refine RD.q (.ptr 0 6) ?_
    refine RD.q (.int .u32 a0.Tag) ?_
    refine RD.q (.ptr 1 6) ?_
    refine RD.q (.int .u32 b1.Tag) ?_
    iterate 2 refine RD.q (.bool (decide (a0.Tag = b1.Tag))) ?_
    refine RD.m rfl ?_
    rcases bool_two (decide (a0.Tag = b1.Tag)) with hb4 | hb4
    ·rw [hb4]; try simp only [hb4, bb] at hR
     iterate 5 refine RD.skip rfl rfl ?_
     refine RD.q (.bool false) ?_
     refine RD.m rfl ?_
     refine RD.doneB [0, 1, 0, 7, 15, 31, 63, 127, 63, 319, 1023, 2047, 4095, 8191, 16383, 8191, 40959, 131071, 262143, 524287, 1048575, 2097151, 1048575, 5242879, 16777215, 33554431, 67108863, 134217727, 268435455, 134217727, 671088639, 2147483647, 4294967295, 8589934591] (by kernel_rfl) (by kernel_rfl) (by kernel_rfl) ?_
     refine WK.ret ?_
     subst hR
     exact RetQ.fr [] (.inr rfl) rfl rfl rfl rfl
    ·rw [hb4]; try simp only [hb4, bb] at hR
     refine RD.q (.ptr 0 9) ?_
     refine RD.q (.ro 2 (a0.Hops.map THop.c)) ?_
     refine RD.q (.ptr 1 9) ?_
     refine RD.q (.ro 2 (b1.Hops.map THop.c)) ?_
     generalize hc36 : F42_crossroadsref25_Hops a0.Hops b1.Hops = c36 at hR
     try dsimp only at hR
     refine RD.callp (r := .bool c36) rfl rfl rfl (f42_ok a0.Hops b1.Hops _ hc36) rfl rfl ?_
     refine RD.q (.bool c36) ?_
     refine RD.m rfl ?_
     refine RD.doneB [0, 1, 0, 7, 15, 31, 63, 127, 63, 319, 1023, 2047, 4095, 8191, 16383, 8191, 40959, 131071, 262143, 524287, 1048575, 2097151, 1048575, 5242879, 16777215, 33554431, 67108863, 134217727, 268435455, 134217727, 671088639, 2147483647, 4294967295, 8589934591] (by kernel_rfl) (by kernel_rfl) (by kernel_rfl) ?_
     refine WK.ret ?_
     subst hR
     exact RetQ.fr [] (.inr rfl) rfl rfl rfl rfl

theorem f4_ok (t0 : TTable) (a1 : Int) (R : Bool) (hR : F4_crossroadslaw25_RibBest t0 a1 = some R) : FnOk Try.prog 4 [.agg (TTable.c t0), .int .u32 a1] [] 0 (.bool R) [] 0 := by
 refine FnOk.wk i4 rfl rfl ?_
 unfold F4_crossroadslaw25_RibBest at hR
 try dsimp only at hR
 change WK _ _ _ [ac4] _ ⟨[(0, .agg (TTable.c t0)), (1, .int .u32 a1)], [], 0⟩
 unfold ac4
 refine WK.sr mixed ?_
 refine GX.step (v' := .ptr 0 0) (heap' := [(0, .box (TTable.c t0))]) (next' := 1) rfl rfl rfl rfl rfl rfl rfl ?_
 refine GX.m rfl ?_
 refine GX.done ?_
 refine WK.seq ?_
 refine WK.sr mixed ?_
 refine GX.q (.ptr 0 0) ?_
 refine GX.q (.ro 10 (t0.L.map TCand.c)) ?_
 refine GX.pure (v' := .int .i64 (t0.L.length : Int)) rfl rfl rfl rfl (len_map _ _) ?_
 refine GX.q (.bool (decide (80 < (t0.L.length : Int)))) ?_
 refine GX.m rfl ?_
 rcases bool_two (decide (80 < (t0.L.length : Int))) with hb1 | hb1
 ·rw [hb1]; first | replace hR := cond_f hb1 hR | (try simp only [hb1, bb] at hR)
  refine GX.q (.ptr 0 0) ?_
  refine GX.q (.ro 10 (t0.L.map TCand.c)) ?_
  generalize hc19 : F6_crossroadslaw25_short t0.L = c19 at hR
  try dsimp only at hR
  refine GX.callp (r := .bool c19) rfl rfl rfl (f6_ok t0.L _ hc19) rfl rfl ?_
  iterate 2 refine GX.q (.bool (!c19)) ?_
  refine GX.m rfl ?_
  rcases bool_two (c19) with hb2 | hb2
  ·rw [hb2]; first | replace hR := cond_f hb2 hR | (try simp only [hb2, bb] at hR)
   iterate 4 refine GX.skip rfl rfl ?_
   refine GX.q (.bool true) ?_
   refine GX.done ?_
   refine WK.condT rfl ?_
   refine WK.sr mixed ?_
   generalize hc28 : F7_crossroadslaw25_alive = c28 at hR
   rcases c28 with _ | c28
   ·try dsimp only at hR
    cases hR
   try dsimp only at hR
   try dsimp only at hR
   refine GX.callp (r := .bool c28) rfl rfl rfl (f7_ok  _ hc28) rfl rfl ?_
   refine GX.m rfl ?_
   refine GX.done ?_
   refine WK.ret ?_
   obtain rfl := Option.some.inj hR
   exact RetQ.fr [] (.inr rfl) rfl rfl rfl rfl
  ·rw [hb2]; first | replace hR := cond_t hb2 hR | (try simp only [hb2, bb] at hR)
   refine GX.q (.agg (TTable.c t0)) ?_
   generalize hc24 : F13_crossroadslaw25_table t0 = c24 at hR
   rcases c24 with _ | c24
   ·try dsimp only at hR
    cases hR
   try dsimp only at hR
   try dsimp only at hR
   refine GX.callp (r := .agg [.ro 10 (c24.L.map TCand.c)]) rfl rfl rfl (f13_ok t0 _ hc24) rfl rfl ?_
   generalize hc25 : F12_crossroadsref25_MayAll c24 = c25 at hR
   try dsimp only at hR
   refine GX.callp (r := .bool c25) rfl rfl rfl (f12_ok c24 _ hc25) rfl rfl ?_
   iterate 2 refine GX.q (.bool (!c25)) ?_
   refine GX.done ?_
   rcases bool_two (c25) with hb3 | hb3
   ·rw [hb3]; first | replace hR := cond_f hb3 hR | (try simp only [hb3, bb] at hR)
    refine WK.condT rfl ?_
    refine WK.sr mixed ?_
    generalize hc28 : F7_crossroadslaw25_alive = c28 at hR
    rcases c28 with _ | c28
    ·try dsimp only at hR
     cases hR
    try dsimp only at hR
    try dsimp only at hR
    refine GX.callp (r := .bool c28) rfl rfl rfl (f7_ok  _ hc28) rfl rfl ?_
    refine GX.m rfl ?_
    refine GX.done ?_
    refine WK.ret ?_
    obtain rfl := Option.some.inj hR
    exact RetQ.fr [] (.inr rfl) rfl rfl rfl rfl
   ·rw [hb3]; first | replace hR := cond_t hb3 hR | (try simp only [hb3, bb] at hR)
    refine WK.condF rfl ?_
    refine WK.skip ?_
    refine WK.sr mixed ?_
    refine GX.q (.agg (TTable.c t0)) ?_
    refine GX.m rfl ?_
    generalize hc32 : F18_rib_Find t0 a1 = c32 at hR
    rcases c32 with _ | c32
    ·try dsimp only at hR
     cases hR
    try dsimp only at hR
    obtain ⟨c32a, c32b⟩ := c32; try dsimp only at hR
    refine GX.callp (r := .tup [.agg [.int .u32 c32a.P.A, .int .i64 c32a.P.N, .int .i64 c32a.Proto, .int .i64 c32a.Inst, .int .i64 c32a.Dist, .int .i64 c32a.Metric, .int .u32 c32a.Tag, .bool c32a.Leaked, .int .i64 c32a.From, .ro 2 (c32a.Hops.map THop.c)], .bool c32b]) rfl rfl rfl (f18_ok t0 a1 _ hc32) rfl rfl ?_
    refine GX.m rfl ?_
    refine GX.q (.agg [.int .u32 c32a.P.A, .int .i64 c32a.P.N, .int .i64 c32a.Proto, .int .i64 c32a.Inst, .int .i64 c32a.Dist, .int .i64 c32a.Metric, .int .u32 c32a.Tag, .bool c32a.Leaked, .int .i64 c32a.From, .ro 2 (c32a.Hops.map THop.c)]) ?_
    refine GX.q (.bool c32b) ?_
    refine GX.step (v' := .ptr 1 0) (heap' := [(0, .box (TTable.c t0)), (1, .box [.int .u32 0, .int .i64 0, .int .i64 0, .int .i64 0, .int .i64 0, .int .i64 0, .int .u32 0, .bool false, .int .i64 0, .nils])]) (next' := 2) rfl rfl rfl rfl rfl rfl rfl ?_
    refine GX.step0 (heap' := [(0, .box (TTable.c t0)), (1, .box (TCand.c c32a))]) (next' := 2) rfl rfl rfl rfl rfl ?_
    refine GX.m rfl ?_
    refine GX.done ?_
    refine WK.seq ?_
    refine WK.sr mixed ?_
    refine GX.m rfl ?_
    refine GX.done ?_
    refine WK.len (t := 13) rfl (by simp) (fun hlen_16 => ?_)
    rw [List.length_map] at hlen_16
    generalize hZ_16 : F4_crossroadslaw25_RibBest_l1 t0 a1 c32a c32b t0.L = Z_16 at hR
    refine WK.forK (fun k s => ∃ (i7 : Nat) (ok6 : Bool), i7 ≤ t0.L.length ∧ k = t0.L.length - i7 ∧ F4_crossroadslaw25_RibBest_l1 t0 a1 c32a ok6 (t0.L.drop i7) = Z_16 ∧ s = ⟨[(1, .int .u32 a1), (2, .ptr 0 0), (5, .ptr 1 0), (6, .bool ok6), (7, .int .i64 (i7 : Int))], [(0, .box (TTable.c t0)), (1, .box (TCand.c c32a))], 2⟩) t0.L.length ⟨⟨[(1, .int .u32 a1), (2, .ptr 0 0), (5, .ptr 1 0), (6, .bool c32b), (7, .int .i64 (0 : Int))], [(0, .box (TTable.c t0)), (1, .box (TCand.c c32a))], 2⟩, Conv.keep [0, 1] [] [1, 2, 5, 6, 7] rfl rfl (viewE_cons rfl rfl (viewE_cons rfl rfl (viewE_cons rfl rfl (viewE_cons rfl rfl (viewE_cons rfl rfl viewE_nil))))) rfl rfl, 0, c32b, (by omega), rfl, hZ_16, rfl⟩ ?_
    rintro _ _ ⟨i7, ok6, hi_16, rfl, hL_16, rfl⟩ again_16 out_16 Q_16 hagain_16 hout_16 hQ_16
    refine WK.seq ?_
    refine WK.sr mixed ?_
    refine GX.m rfl ?_
    refine GX.q (.ptr 0 0) ?_
    refine GX.q (.ro 10 (t0.L.map TCand.c)) ?_
    refine GX.pure (v' := .int .i64 (t0.L.length : Int)) rfl rfl rfl rfl (len_map _ _) ?_
    refine GX.q (.bool (decide ((i7 : Int) < (t0.L.length : Int)))) ?_
    refine GX.done ?_
    rcases bool_two (decide ((i7 : Int) < (t0.L.length : Int))) with hb17 | hb17
    ·rw [hb17]
     rw [drop_end hb17, F4_crossroadslaw25_RibBest_l1] at hL_16
     refine WK.condF rfl ?_
     refine WK.exit ?_
     refine QF.exit (hout_16 _ ?_)
     subst hL_16
     try dsimp only [cond_true, cond_false] at hR
     refine WK.sr mixed ?_
     refine GX.q (.agg (TTable.c t0)) ?_
     refine GX.q (.ptr 1 0) ?_
     refine GX.q (.agg [.int .u32 c32a.P.A, .int .i64 c32a.P.N]) ?_
     generalize hc88 : F21_rib_Best t0 c32a.P = c88 at hR
     rcases c88 with _ | c88
     ·try dsimp only at hR
      cases hR
     try dsimp only at hR
     obtain ⟨c88a, c88b⟩ := c88; try dsimp only at hR
     refine GX.callp (r := .tup [.agg [.int .u32 c88a.P.A, .int .i64 c88a.P.N, .int .i64 c88a.Proto, .int .i64 c88a.Inst, .int .i64 c88a.Dist, .int .i64 c88a.Metric, .int .u32 c88a.Tag, .bool c88a.Leaked, .int .i64 c88a.From, .ro 2 (c88a.Hops.map THop.c)], .bool c88b]) rfl rfl rfl (f21_ok t0 c32a.P _ hc88) rfl rfl ?_
     refine GX.m rfl ?_
     refine GX.q (.agg [.int .u32 c88a.P.A, .int .i64 c88a.P.N, .int .i64 c88a.Proto, .int .i64 c88a.Inst, .int .i64 c88a.Dist, .int .i64 c88a.Metric, .int .u32 c88a.Tag, .bool c88a.Leaked, .int .i64 c88a.From, .ro 2 (c88a.Hops.map THop.c)]) ?_
     refine GX.q (.bool c88b) ?_
     refine GX.step (v' := .ptr 2 0) (heap' := [(0, .box (TTable.c t0)), (1, .box (TCand.c c32a)), (2, .box [.int .u32 0, .int .i64 0, .int .i64 0, .int .i64 0, .int .i64 0, .int .i64 0, .int .u32 0, .bool false, .int .i64 0, .nils])]) (next' := 3) rfl rfl rfl rfl rfl rfl rfl ?_
     refine GX.step0 (heap' := [(0, .box (TTable.c t0)), (1, .box (TCand.c c32a)), (2, .box (TCand.c c88a))]) (next' := 3) rfl rfl rfl rfl rfl ?_
     refine GX.m rfl ?_
     refine GX.done ?_
     refine WK.seq ?_
     refine WK.drawn mixed ?_
     generalize hc91 : F7_crossroadslaw25_alive = c91 at hR
     rcases c91 with _ | c91
     ·try dsimp only at hR
      cases hR
     try dsimp only at hR
     try dsimp only at hR
     refine RD.callp (r := .bool c91) rfl rfl rfl (f7_ok  _ hc91) rfl rfl ?_
     refine RD.m rfl ?_
     rcases bool_two (c91) with hb18 | hb18
     ·rw [hb18]; first | replace hR := cond_f hb18 hR | (try simp only [hb18, bb] at hR)
      iterate 18 refine RD.skip rfl rfl ?_
      refine RD.q (.bool false) ?_
      refine RD.m rfl ?_
      refine RD.done rfl ?_
      refine WK.ret ?_
      obtain rfl := Option.some.inj hR
      exact RetQ.fr [] (.inr rfl) rfl rfl rfl rfl
     ·rw [hb18]; first | replace hR := cond_t hb18 hR | (try simp only [hb18, bb] at hR)
      refine RD.m rfl ?_
      refine RD.q (.bool (!ok6)) ?_
      refine RD.m rfl ?_
      rcases bool_two (ok6) with hb19 | hb19
      ·rw [hb19]; first | replace hR := cond_f hb19 hR | (try simp only [hb19, bb] at hR)
       iterate 14 refine RD.skip rfl rfl ?_
       iterate 2 refine RD.q (.bool true) ?_
       refine RD.m rfl ?_
       refine RD.done rfl ?_
       refine WK.ret ?_
       obtain rfl := Option.some.inj hR
       exact RetQ.fr [] (.inr rfl) rfl rfl rfl rfl
      ·rw [hb19]; first | replace hR := cond_t hb19 hR | (try simp only [hb19, bb] at hR)
       iterate 2 refine RD.m rfl ?_
       rcases bool_two (c88b) with hb20 | hb20
       ·rw [hb20]; first | replace hR := cond_f hb20 hR | (try simp only [hb20, bb] at hR)
        iterate 5 refine RD.skip rfl rfl ?_
        refine RD.q (.bool false) ?_
        refine RD.m rfl ?_
        iterate 4 refine RD.skip rfl rfl ?_
        iterate 3 refine RD.q (.bool false) ?_
        refine RD.m rfl ?_
        refine RD.done rfl ?_
        refine WK.ret ?_
        obtain rfl := Option.some.inj hR
        exact RetQ.fr [] (.inr rfl) rfl rfl rfl rfl
       ·rw [hb20]; first | replace hR := cond_t hb20 hR | (try simp only [hb20, bb] at hR)
        refine RD.q (.agg (TCand.c c88a)) ?_
        generalize hc99 : F10_crossroadslaw25_plain c88a = c99 at hR
        rcases c99 with _ | c99
        ·try dsimp only at hR
         cases hR
        try dsimp only at hR
        try dsimp only at hR
        refine RD.callp (r := .agg [.int .u32 c99.P.A, .int .i64 c99.P.N, .int .i64 c99.Proto, .int .i64 c99.Inst, .int .i64 c99.Dist, .int .i64 c99.Metric, .int .u32 c99.Tag, .bool c99.Leaked, .int .i64 c99.From, .ro 2 (c99.Hops.map THop.c)]) rfl rfl rfl (f10_ok c88a _ hc99) rfl rfl ?_
        refine RD.q (.agg (TCand.c c32a)) ?_
        generalize hc101 : F10_crossroadslaw25_plain c32a = c101 at hR
        rcases c101 with _ | c101
        ·try dsimp only at hR
         cases hR
        try dsimp only at hR
        try dsimp only at hR
        refine RD.callp (r := .agg [.int .u32 c101.P.A, .int .i64 c101.P.N, .int .i64 c101.Proto, .int .i64 c101.Inst, .int .i64 c101.Dist, .int .i64 c101.Metric, .int .u32 c101.Tag, .bool c101.Leaked, .int .i64 c101.From, .ro 2 (c101.Hops.map THop.c)]) rfl rfl rfl (f10_ok c32a _ hc101) rfl rfl ?_
        generalize hc102 : F22_crossroadsref25_Same c99 c101 = c102 at hR
        try dsimp only at hR
        refine RD.callp (r := .bool c102) rfl rfl rfl (f22_ok c99 c101 _ hc102) rfl rfl ?_
        refine RD.q (.bool c102) ?_
        refine RD.m rfl ?_
        rcases bool_two (c102) with hb21 | hb21
        ·rw [hb21]; first | replace hR := cond_f hb21 hR | (try simp only [hb21, bb] at hR)
         iterate 4 refine RD.skip rfl rfl ?_
         iterate 3 refine RD.q (.bool false) ?_
         refine RD.m rfl ?_
         refine RD.done rfl ?_
         refine WK.ret ?_
         obtain rfl := Option.some.inj hR
         exact RetQ.fr [] (.inr rfl) rfl rfl rfl rfl
        ·rw [hb21]; first | replace hR := cond_t hb21 hR | (try simp only [hb21, bb] at hR)
         refine RD.q (.ptr 1 0) ?_
         refine RD.q (.agg [.int .u32 c32a.P.A, .int .i64 c32a.P.N]) ?_
         refine RD.m rfl ?_
         generalize hc108 : F20_crossroadsref03_Has c32a.P a1 = c108 at hR
         try dsimp only at hR
         refine RD.callp (r := .bool c108) rfl rfl rfl (f20_ok c32a.P a1 _ hc108) rfl rfl ?_
         iterate 3 refine RD.q (.bool c108) ?_
         refine RD.m rfl ?_
         refine RD.done rfl ?_
         refine WK.ret ?_
         obtain rfl := Option.some.inj hR
         exact RetQ.fr [] (.inr rfl) rfl rfl rfl rfl
    ·rw [hb17]
     obtain ⟨x7, hx16, hd16, hlt16⟩ := drop_more hb17
     rw [hd16, F4_crossroadslaw25_RibBest_l1] at hL_16
     refine WK.condT rfl ?_
     refine WK.skip ?_
     refine WK.seq ?_
     refine WK.blockK (fun _ hK22 => ?_)
     refine WK.seq ?_
     refine WK.drawn mixed ?_
     refine RD.q (.agg (TTable.c t0)) ?_
     refine RD.q (.ptr 0 0) ?_
     refine RD.q (.ro 10 (t0.L.map TCand.c)) ?_
     refine RD.m rfl ?_
     refine RD.idxT (c := TCand.c) (x := x7) rfl rfl rfl (Int.natCast_nonneg _) hx16 ?_
     refine RD.q (.agg (TCand.c x7)) ?_
     generalize hc49 : F19_rib_Lives t0 x7 = c49 at hL_16
     rcases c49 with _ | c49
     ·try dsimp only at hL_16
      subst hL_16
      try dsimp only at hR
      cases hR
     try dsimp only at hL_16
     obtain ⟨c49a, c49b⟩ := c49; try dsimp only at hL_16
     refine RD.callp (r := .tup [.agg [.int .u32 c49a.P.A, .int .i64 c49a.P.N, .int .i64 c49a.Proto, .int .i64 c49a.Inst, .int .i64 c49a.Dist, .int .i64 c49a.Metric, .int .u32 c49a.Tag, .bool c49a.Leaked, .int .i64 c49a.From, .ro 2 (c49a.Hops.map THop.c)], .bool c49b]) rfl rfl rfl (f19_ok t0 x7 _ hc49) rfl rfl ?_
     refine RD.m rfl ?_
     refine RD.q (.agg [.int .u32 c49a.P.A, .int .i64 c49a.P.N, .int .i64 c49a.Proto, .int .i64 c49a.Inst, .int .i64 c49a.Dist, .int .i64 c49a.Metric, .int .u32 c49a.Tag, .bool c49a.Leaked, .int .i64 c49a.From, .ro 2 (c49a.Hops.map THop.c)]) ?_
     refine RD.q (.bool c49b) ?_
     refine RD.step (v' := .ptr 2 0) (heap' := [(0, .box (TTable.c t0)), (1, .box (TCand.c c32a)), (2, .box [.int .u32 0, .int .i64 0, .int .i64 0, .int .i64 0, .int .i64 0, .int .i64 0, .int .u32 0, .bool false, .int .i64 0, .nils])]) (next' := 3) rfl rfl rfl rfl rfl rfl rfl ?_
     refine RD.step0 (heap' := [(0, .box (TTable.c t0)), (1, .box (TCand.c c32a)), (2, .box (TCand.c c49a))]) (next' := 3) rfl rfl rfl rfl rfl ?_
     refine RD.m rfl ?_
     refine RD.done rfl ?_
     refine WK.seq ?_
     refine WK.sr mixed ?_
     refine GX.m rfl ?_
     refine GX.q (.bool (!c49b)) ?_
     refine GX.m rfl ?_
     rcases bool_two (c49b) with hb23 | hb23
     ·rw [hb23]; try simp only [hb23, bb] at hL_16
      iterate 5 refine GX.skip rfl rfl ?_
      refine GX.q (.bool true) ?_
      refine GX.done ?_
      refine WK.condT rfl ?_
      refine WK.exit ?_
      refine QF.exit (hK22 _ ?_)
      refine WK.regx mixed ?_
      refine GX.m rfl ?_
      refine GX.pure (v' := .int .i64 ((i7 + 1 : Nat) : Int)) rfl rfl rfl rfl (congrArg (PVal.int .i64) (wrap_up hlt16 hlen_16)) ?_
      refine GX.m rfl ?_
      refine GX.done ?_
      refine WK.nil (QF.normal ?_)
      exact hagain_16 _ (t0.L.length - (i7 + 1)) ⟨[(1, .int .u32 a1), (2, .ptr 0 0), (5, .ptr 1 0), (6, .bool ok6), (7, .int .i64 ((i7 + 1) : Int))], [(0, .box (TTable.c t0)), (1, .box (TCand.c c32a))], 2⟩ (by omega) (Conv.keep [0, 1] [] [1, 2, 5, 6, 7] rfl rfl (viewE_cons rfl rfl (viewE_cons rfl rfl (viewE_cons rfl rfl (viewE_cons rfl rfl (viewE_cons rfl rfl viewE_nil))))) rfl rfl) ⟨i7 + 1, ok6, (by omega), rfl, hL_16, rfl⟩
     ·rw [hb23]; try simp only [hb23, bb] at hL_16
      refine GX.q (.ptr 2 0) ?_
      refine GX.q (.agg [.int .u32 c49a.P.A, .int .i64 c49a.P.N]) ?_
      refine GX.m rfl ?_
      generalize hc58 : F20_crossroadsref03_Has c49a.P a1 = c58 at hL_16
      try dsimp only at hL_16
      refine GX.callp (r := .bool c58) rfl rfl rfl (f20_ok c49a.P a1 _ hc58) rfl rfl ?_
      iterate 2 refine GX.q (.bool (!c58)) ?_
      refine GX.done ?_
      rcases bool_two (c58) with hb24 | hb24
      ·rw [hb24]; try simp only [hb24, bb] at hL_16
       refine WK.condT rfl ?_
       refine WK.exit ?_
       refine QF.exit (hK22 _ ?_)
       refine WK.regx mixed ?_
       refine GX.m rfl ?_
       refine GX.pure (v' := .int .i64 ((i7 + 1 : Nat) : Int)) rfl rfl rfl rfl (congrArg (PVal.int .i64) (wrap_up hlt16 hlen_16)) ?_
       refine GX.m rfl ?_
       refine GX.done ?_
       refine WK.nil (QF.normal ?_)
       exact hagain_16 _ (t0.L.length - (i7 + 1)) ⟨[(1, .int .u32 a1), (2, .ptr 0 0), (5, .ptr 1 0), (6, .bool ok6), (7, .int .i64 ((i7 + 1) : Int))], [(0, .box (TTable.c t0)), (1, .box (TCand.c c32a))], 2⟩ (by omega) (Conv.keep [0, 1] [] [1, 2, 5, 6, 7] rfl rfl (viewE_cons rfl rfl (viewE_cons rfl rfl (viewE_cons rfl rfl (viewE_cons rfl rfl (viewE_cons rfl rfl viewE_nil))))) rfl rfl) ⟨i7 + 1, ok6, (by omega), rfl, hL_16, rfl⟩
      ·rw [hb24]; try simp only [hb24, bb] at hL_16
       refine WK.condF rfl ?_
       refine WK.skip ?_
       refine WK.sr mixed ?_
       refine GX.m rfl ?_
       refine GX.q (.bool (!ok6)) ?_
       refine GX.m rfl ?_
       rcases bool_two (ok6) with hb25 | hb25
       ·rw [hb25]; try simp only [hb25, bb] at hL_16
        iterate 7 refine GX.skip rfl rfl ?_
        refine GX.q (.bool true) ?_
        refine GX.m rfl ?_
        iterate 10 refine GX.skip rfl rfl ?_
        refine GX.q (.bool true) ?_
        refine GX.done ?_
        refine WK.condT rfl ?_
        refine WK.sr mixed ?_
        refine GX.m rfl ?_
        refine GX.done ?_
        refine WK.ret ?_
        refine QF.ret ?_
        refine QF.ret (hQ_16 _ _ ?_)
        subst hL_16
        try dsimp only at hR
        obtain rfl := Option.some.inj hR
        exact RetQ.fr [] (.inr rfl) rfl rfl rfl rfl
       ·rw [hb25]; try simp only [hb25, bb] at hL_16
        refine GX.q (.ptr 2 0) ?_
        refine GX.q (.ptr 2 1) ?_
        refine GX.q (.int .i64 c49a.P.N) ?_
        refine GX.q (.ptr 1 0) ?_
        refine GX.q (.ptr 1 1) ?_
        refine GX.q (.int .i64 c32a.P.N) ?_
        iterate 2 refine GX.q (.bool (decide (c32a.P.N < c49a.P.N))) ?_
        refine GX.m rfl ?_
        rcases bool_two (decide (c32a.P.N < c49a.P.N)) with hb26 | hb26
        ·rw [hb26]; try simp only [hb26, bb] at hL_16
         refine GX.q (.ptr 2 0) ?_
         refine GX.q (.agg [.int .u32 c49a.P.A, .int .i64 c49a.P.N]) ?_
         refine GX.q (.ptr 1 0) ?_
         refine GX.q (.agg [.int .u32 c32a.P.A, .int .i64 c32a.P.N]) ?_
         refine GX.q (.bool (decide (c49a.P.A = c32a.P.A) && (decide (c49a.P.N = c32a.P.N) && true))) ?_
         refine GX.m rfl ?_
         rcases bool_two ((decide (c49a.P.A = c32a.P.A) && (decide (c49a.P.N = c32a.P.N) && true))) with hb27 | hb27
         ·rw [hb27]; try simp only [hb27, bb] at hL_16
          iterate 3 refine GX.skip rfl rfl ?_
          iterate 2 refine GX.q (.bool false) ?_
          refine GX.done ?_
          refine WK.condF rfl ?_
          refine WK.skip ?_
          refine WK.nil (QF.normal (hK22 _ ?_))
          refine WK.regx mixed ?_
          refine GX.m rfl ?_
          refine GX.pure (v' := .int .i64 ((i7 + 1 : Nat) : Int)) rfl rfl rfl rfl (congrArg (PVal.int .i64) (wrap_up hlt16 hlen_16)) ?_
          refine GX.m rfl ?_
          refine GX.done ?_
          refine WK.nil (QF.normal ?_)
          exact hagain_16 _ (t0.L.length - (i7 + 1)) ⟨[(1, .int .u32 a1), (2, .ptr 0 0), (5, .ptr 1 0), (6, .bool true), (7, .int .i64 ((i7 + 1) : Int))], [(0, .box (TTable.c t0)), (1, .box (TCand.c c32a))], 2⟩ (by omega) (Conv.keep [0, 1] [] [1, 2, 5, 6, 7] rfl rfl (viewE_cons rfl rfl (viewE_cons rfl rfl (viewE_cons rfl rfl (viewE_cons rfl rfl (viewE_cons rfl rfl viewE_nil))))) rfl rfl) ⟨i7 + 1, true, (by omega), rfl, hL_16, rfl⟩
         ·rw [hb27]; try simp only [hb27, bb] at hL_16
          refine GX.q (.agg (TCand.c c49a)) ?_
          refine GX.q (.agg (TCand.c c32a)) ?_
          generalize hc81 : F16_rib_Better c49a c32a = c81 at hL_16
          try dsimp only at hL_16
          refine GX.callp (r := .bool c81) rfl rfl rfl (f16_ok c49a c32a _ hc81) rfl rfl ?_
          iterate 2 refine GX.q (.bool c81) ?_
          refine GX.done ?_
          rcases bool_two (c81) with hb28 | hb28
          ·rw [hb28]; try simp only [hb28, bb] at hL_16
           refine WK.condF rfl ?_
           refine WK.skip ?_
           refine WK.nil (QF.normal (hK22 _ ?_))
           refine WK.regx mixed ?_
           refine GX.m rfl ?_
           refine GX.pure (v' := .int .i64 ((i7 + 1 : Nat) : Int)) rfl rfl rfl rfl (congrArg (PVal.int .i64) (wrap_up hlt16 hlen_16)) ?_
           refine GX.m rfl ?_
           refine GX.done ?_
           refine WK.nil (QF.normal ?_)
           exact hagain_16 _ (t0.L.length - (i7 + 1)) ⟨[(1, .int .u32 a1), (2, .ptr 0 0), (5, .ptr 1 0), (6, .bool true), (7, .int .i64 ((i7 + 1) : Int))], [(0, .box (TTable.c t0)), (1, .box (TCand.c c32a))], 2⟩ (by omega) (Conv.keep [0, 1] [] [1, 2, 5, 6, 7] rfl rfl (viewE_cons rfl rfl (viewE_cons rfl rfl (viewE_cons rfl rfl (viewE_cons rfl rfl (viewE_cons rfl rfl viewE_nil))))) rfl rfl) ⟨i7 + 1, true, (by omega), rfl, hL_16, rfl⟩
          ·rw [hb28]; try simp only [hb28, bb] at hL_16
           refine WK.condT rfl ?_
           refine WK.sr mixed ?_
           refine GX.m rfl ?_
           refine GX.done ?_
           refine WK.ret ?_
           refine QF.ret ?_
           refine QF.ret (hQ_16 _ _ ?_)
           subst hL_16
           try dsimp only at hR
           obtain rfl := Option.some.inj hR
           exact RetQ.fr [] (.inr rfl) rfl rfl rfl rfl
        ·rw [hb26]; try simp only [hb26, bb] at hL_16
         iterate 10 refine GX.skip rfl rfl ?_
         refine GX.q (.bool true) ?_
         refine GX.done ?_
         refine WK.condT rfl ?_
         refine WK.sr mixed ?_
         refine GX.m rfl ?_
         refine GX.done ?_
         refine WK.ret ?_
         refine QF.ret ?_
         refine QF.ret (hQ_16 _ _ ?_)
         subst hL_16
         try dsimp only at hR
         obtain rfl := Option.some.inj hR
         exact RetQ.fr [] (.inr rfl) rfl rfl rfl rfl
 ·rw [hb1]; first | replace hR := cond_t hb1 hR | (try simp only [hb1, bb] at hR)
  iterate 4 refine GX.skip rfl rfl ?_
  refine GX.q (.bool true) ?_
  refine GX.m rfl ?_
  iterate 4 refine GX.skip rfl rfl ?_
  refine GX.q (.bool true) ?_
  refine GX.done ?_
  refine WK.condT rfl ?_
  refine WK.sr mixed ?_
  generalize hc28 : F7_crossroadslaw25_alive = c28 at hR
  rcases c28 with _ | c28
  ·try dsimp only at hR
   cases hR
  try dsimp only at hR
  try dsimp only at hR
  refine GX.callp (r := .bool c28) rfl rfl rfl (f7_ok  _ hc28) rfl rfl ?_
  refine GX.m rfl ?_
  refine GX.done ?_
  refine WK.ret ?_
  obtain rfl := Option.some.inj hR
  exact RetQ.fr [] (.inr rfl) rfl rfl rfl rfl

end Go.Proofs.Ytmfggjebbhdejaa.Abs
