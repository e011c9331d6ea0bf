/- The functions walked: each computes its Lean function (printed by this work's own program gen.py). -/
import Derived.Test.YtmfggjebbhdejaaSo
import Derived.Test.YtmfggjebbhdejaaW1
set_option linter.unusedVariables false
set_option linter.unusedSimpArgs false
set_option maxRecDepth 10000
set_option maxHeartbeats 4000000
namespace Go.Proofs.Ytmfggjebbhdejaa.Abs
open Go

theorem f5_ok (l0 : List TCand) (p1 : TPrefix) (R : Bool) (hR : F5_crossroadslaw25_RibOrder l0 p1 = some R) : FnOk Try.prog 5 [.ro 10 (l0.map TCand.c), .agg (TPrefix.c p1)] [] 0 (.bool R) [] 0 := by
 refine FnOk.wk i5 rfl rfl ?_
 unfold F5_crossroadslaw25_RibOrder at hR
 try dsimp only at hR
 change WK _ _ _ [ac5] _ ⟨[(0, .ro 10 (l0.map TCand.c)), (1, .agg (TPrefix.c p1))], [], 0⟩
 unfold ac5
 refine WK.sr mixed ?_
 refine GX.step (v' := .ptr 0 0) (heap' := [(0, .box (TPrefix.c p1))]) (next' := 1) rfl rfl rfl rfl rfl rfl rfl ?_
 refine GX.m rfl ?_
 refine GX.done ?_
 refine WK.seq ?_
 refine WK.sr mixed ?_
 refine GX.m rfl ?_
 refine GX.pure (v' := .int .i64 (l0.length : Int)) rfl rfl rfl rfl (len_map _ _) ?_
 refine GX.q (.bool (decide (80 < (l0.length : Int)))) ?_
 refine GX.m rfl ?_
 rcases bool_two (decide (80 < (l0.length : Int))) with hb1 | hb1
 ·rw [hb1]; first | replace hR := cond_f hb1 hR | (try simp only [hb1, bb] at hR)
  refine GX.m rfl ?_
  generalize hc26 : F6_crossroadslaw25_short l0 = c26 at hR
  try dsimp only at hR
  refine GX.callp (r := .bool c26) rfl rfl rfl (f6_ok l0 _ hc26) rfl rfl ?_
  iterate 2 refine GX.q (.bool (!c26)) ?_
  refine GX.done ?_
  rcases bool_two (c26) with hb2 | hb2
  ·rw [hb2]; first | replace hR := cond_f hb2 hR | (try simp only [hb2, bb] at hR)
   refine WK.condT rfl ?_
   refine WK.sr mixed ?_
   generalize hc29 : F7_crossroadslaw25_alive = c29 at hR
   rcases c29 with _ | c29
   ·try dsimp only at hR
    cases hR
   try dsimp only at hR
   try dsimp only at hR
   refine GX.callp (r := .bool c29) rfl rfl rfl (f7_ok  _ hc29) rfl rfl ?_
   refine GX.m rfl ?_
   refine GX.done ?_
   refine WK.ret ?_
   obtain rfl := Option.some.inj hR
   exact RetQ.fr [] (.inr rfl) rfl rfl rfl rfl
  ·rw [hb2]; first | replace hR := cond_t hb2 hR | (try simp only [hb2, bb] at hR)
   refine WK.condF rfl ?_
   refine WK.skip ?_
   refine WK.sr mixed ?_
   iterate 2 refine GX.q (.agg [.nils]) ?_
   refine GX.step (v' := .ptr 1 0) (heap' := [(0, .box (TPrefix.c p1)), (1, .box [.nils])]) (next' := 2) rfl rfl rfl rfl rfl rfl rfl ?_
   refine GX.step (v' := .ptr 2 0) (heap' := [(0, .box (TPrefix.c p1)), (1, .box [.nils]), (2, .box [.nils])]) (next' := 3) rfl rfl rfl rfl rfl rfl rfl ?_
   iterate 2 refine GX.step0 (heap' := [(0, .box (TPrefix.c p1)), (1, .box [.nils]), (2, .box [.nils])]) (next' := 3) rfl rfl rfl rfl rfl ?_
   refine GX.done ?_
   refine WK.sr mixed ?_
   refine GX.step (v' := .own 3 10 0 (([] : List TCand)).length) (heap' := [(0, .box (TPrefix.c p1)), (1, .box [.nils]), (2, .box [.nils]), (3, .row 10 28 (([] : List TCand).map TCand.c))]) (next' := 4) rfl rfl rfl rfl rfl rfl rfl ?_
   refine GX.m rfl ?_
   refine GX.done ?_
   refine WK.seq ?_
   refine WK.sr mixed ?_
   refine GX.m rfl ?_
   refine GX.done ?_
   refine WK.len (t := 0) rfl (by simp) (fun hlen_13 => ?_)
   rw [List.length_map] at hlen_13
   generalize hZ_13 : F5_crossroadslaw25_RibOrder_l4 ([] : List TCand) l0 = Z_13 at hR
   refine WK.forK (fun k s => ∃ (i8 : Nat) (k7 : List TCand), i8 ≤ l0.length ∧ k = l0.length - i8 ∧ F5_crossroadslaw25_RibOrder_l4 k7 (l0.drop i8) = Z_13 ∧ s = ⟨[(0, .ro 10 (l0.map TCand.c)), (3, .ptr 0 0), (5, .ptr 1 0), (6, .ptr 2 0), (7, .own 3 10 0 k7.length), (8, .int .i64 (i8 : Int))], [(0, .box (TPrefix.c p1)), (1, .box [.nils]), (2, .box [.nils]), (3, .row 10 28 (k7.map TCand.c))], 4⟩) l0.length ⟨⟨[(0, .ro 10 (l0.map TCand.c)), (3, .ptr 0 0), (5, .ptr 1 0), (6, .ptr 2 0), (7, .own 3 10 0 ([] : List TCand).length), (8, .int .i64 (0 : Int))], [(0, .box (TPrefix.c p1)), (1, .box [.nils]), (2, .box [.nils]), (3, .row 10 28 (([] : List TCand).map TCand.c))], 4⟩, Conv.keep [0, 1, 2, 3] [] [0, 3, 5, 6, 7, 8] rfl rfl (viewE_cons rfl rfl (viewE_cons rfl rfl (viewE_cons rfl rfl (viewE_cons rfl rfl (viewE_cons rfl rfl (viewE_cons rfl rfl viewE_nil)))))) rfl rfl, 0, ([] : List TCand), (by omega), rfl, hZ_13, rfl⟩ ?_
   rintro _ _ ⟨i8, k7, hi_13, rfl, hL_13, rfl⟩ again_13 out_13 Q_13 hagain_13 hout_13 hQ_13
   refine WK.seq ?_
   refine WK.sr mixed ?_
   iterate 2 refine GX.m rfl ?_
   refine GX.pure (v' := .int .i64 (l0.length : Int)) rfl rfl rfl rfl (len_map _ _) ?_
   refine GX.q (.bool (decide ((i8 : Int) < (l0.length : Int)))) ?_
   refine GX.done ?_
   rcases bool_two (decide ((i8 : Int) < (l0.length : Int))) with hb14 | hb14
   ·rw [hb14]
    rw [drop_end hb14, F5_crossroadslaw25_RibOrder_l4] at hL_13
    refine WK.condF rfl ?_
    refine WK.exit ?_
    refine QF.exit (hout_13 _ ?_)
    subst hL_13
    try dsimp only [cond_true, cond_false] at hR
    refine WK.seq ?_
    refine WK.sr mixed ?_
    refine GX.m rfl ?_
    refine GX.done ?_
    refine WK.weakB (id := 1) (cs' := [.ro 10 (([] : List TCand).map TCand.c)]) (heap' := [(0, .box (TPrefix.c p1)), (1, .box [.ro 10 (([] : List TCand).map TCand.c)]), (2, .box [.nils]), (3, .row 10 28 (k7.map TCand.c))]) rfl (.cons .nil .refl) (by simp) rfl ?_
    refine WK.weakB (id := 2) (cs' := [.ro 10 (([] : List TCand).map TCand.c)]) (heap' := [(0, .box (TPrefix.c p1)), (1, .box [.ro 10 (([] : List TCand).map TCand.c)]), (2, .box [.ro 10 (([] : List TCand).map TCand.c)]), (3, .row 10 28 (k7.map TCand.c))]) rfl (.cons .nil .refl) (by simp) rfl ?_
    refine WK.leno (id := 3) rfl (by simp) (fun hlen_45 => ?_)
    rw [List.length_map] at hlen_45
    generalize hZ_45 : F5_crossroadslaw25_RibOrder_l2 k7 (⟨([] : List TCand)⟩ : TTable) (⟨([] : List TCand)⟩ : TTable) 0 k7 = Z_45 at hR
    refine WK.forK (fun k s => ∃ (i11 : Nat) (t5 : TTable) (u6 : TTable), i11 ≤ k7.length ∧ k = k7.length - i11 ∧ F5_crossroadslaw25_RibOrder_l2 k7 t5 u6 i11 (k7.drop i11) = Z_45 ∧ s = ⟨[(3, .ptr 0 0), (5, .ptr 1 0), (6, .ptr 2 0), (7, .own 3 10 0 k7.length), (11, .int .i64 (i11 : Int))], [(0, .box (TPrefix.c p1)), (1, .box (TTable.c t5)), (2, .box (TTable.c u6)), (3, .row 10 28 (k7.map TCand.c))], 4⟩) k7.length ⟨⟨[(3, .ptr 0 0), (5, .ptr 1 0), (6, .ptr 2 0), (7, .own 3 10 0 k7.length), (11, .int .i64 (0 : Int))], [(0, .box (TPrefix.c p1)), (1, .box (TTable.c (⟨([] : List TCand)⟩ : TTable))), (2, .box (TTable.c (⟨([] : List TCand)⟩ : TTable))), (3, .row 10 28 (k7.map TCand.c))], 4⟩, Conv.keep [0, 1, 2, 3] [] [3, 5, 6, 7, 11] rfl rfl (viewE_cons rfl rfl (viewE_cons rfl rfl (viewE_cons rfl rfl (viewE_cons rfl rfl (viewE_cons rfl rfl viewE_nil))))) rfl rfl, 0, (⟨([] : List TCand)⟩ : TTable), (⟨([] : List TCand)⟩ : TTable), (by omega), rfl, hZ_45, rfl⟩ ?_
    rintro _ _ ⟨i11, t5, u6, hi_45, rfl, hL_45, rfl⟩ again_45 out_45 Q_45 hagain_45 hout_45 hQ_45
    refine WK.seq ?_
    refine WK.sr mixed ?_
    iterate 2 refine GX.m rfl ?_
    refine GX.q (.int .i64 (k7.length : Int)) ?_
    refine GX.q (.bool (decide ((i11 : Int) < (k7.length : Int)))) ?_
    refine GX.done ?_
    rcases bool_two (decide ((i11 : Int) < (k7.length : Int))) with hb46 | hb46
    ·rw [hb46]
     rw [drop_end hb46, F5_crossroadslaw25_RibOrder_l2] at hL_45
     refine WK.condF rfl ?_
     refine WK.exit ?_
     refine QF.exit (hout_45 _ ?_)
     subst hL_45
     try dsimp only [cond_true, cond_false] at hR
     refine WK.sr mixed ?_
     refine GX.q (.agg (TTable.c t5)) ?_
     refine GX.q (.agg (TPrefix.c p1)) ?_
     generalize hc156 : F21_rib_Best t5 p1 = c156 at hR
     rcases c156 with _ | c156
     ·try dsimp only at hR
      cases hR
     try dsimp only at hR
     obtain ⟨c156a, c156b⟩ := c156; try dsimp only at hR
     refine GX.callp (r := .tup [.agg [.int .u32 c156a.P.A, .int .i64 c156a.P.N, .int .i64 c156a.Proto, .int .i64 c156a.Inst, .int .i64 c156a.Dist, .int .i64 c156a.Metric, .int .u32 c156a.Tag, .bool c156a.Leaked, .int .i64 c156a.From, .ro 2 (c156a.Hops.map THop.c)], .bool c156b]) rfl rfl rfl (f21_ok t5 p1 _ hc156) rfl rfl ?_
     refine GX.m rfl ?_
     refine GX.q (.agg [.int .u32 c156a.P.A, .int .i64 c156a.P.N, .int .i64 c156a.Proto, .int .i64 c156a.Inst, .int .i64 c156a.Dist, .int .i64 c156a.Metric, .int .u32 c156a.Tag, .bool c156a.Leaked, .int .i64 c156a.From, .ro 2 (c156a.Hops.map THop.c)]) ?_
     refine GX.q (.bool c156b) ?_
     refine GX.step (v' := .ptr 4 0) (heap' := [(0, .box (TPrefix.c p1)), (1, .box (TTable.c t5)), (2, .box (TTable.c u6)), (3, .row 10 28 (k7.map TCand.c)), (4, .box [.int .u32 0, .int .i64 0, .int .i64 0, .int .i64 0, .int .i64 0, .int .i64 0, .int .u32 0, .bool false, .int .i64 0, .nils])]) (next' := 5) rfl rfl rfl rfl rfl rfl rfl ?_
     refine GX.step0 (heap' := [(0, .box (TPrefix.c p1)), (1, .box (TTable.c t5)), (2, .box (TTable.c u6)), (3, .row 10 28 (k7.map TCand.c)), (4, .box (TCand.c c156a))]) (next' := 5) rfl rfl rfl rfl rfl ?_
     refine GX.m rfl ?_
     refine GX.done ?_
     refine WK.sr mixed ?_
     refine GX.q (.agg (TTable.c u6)) ?_
     refine GX.q (.agg (TPrefix.c p1)) ?_
     generalize hc162 : F21_rib_Best u6 p1 = c162 at hR
     rcases c162 with _ | c162
     ·try dsimp only at hR
      cases hR
     try dsimp only at hR
     obtain ⟨c162a, c162b⟩ := c162; try dsimp only at hR
     refine GX.callp (r := .tup [.agg [.int .u32 c162a.P.A, .int .i64 c162a.P.N, .int .i64 c162a.Proto, .int .i64 c162a.Inst, .int .i64 c162a.Dist, .int .i64 c162a.Metric, .int .u32 c162a.Tag, .bool c162a.Leaked, .int .i64 c162a.From, .ro 2 (c162a.Hops.map THop.c)], .bool c162b]) rfl rfl rfl (f21_ok u6 p1 _ hc162) rfl rfl ?_
     refine GX.m rfl ?_
     refine GX.q (.agg [.int .u32 c162a.P.A, .int .i64 c162a.P.N, .int .i64 c162a.Proto, .int .i64 c162a.Inst, .int .i64 c162a.Dist, .int .i64 c162a.Metric, .int .u32 c162a.Tag, .bool c162a.Leaked, .int .i64 c162a.From, .ro 2 (c162a.Hops.map THop.c)]) ?_
     refine GX.q (.bool c162b) ?_
     refine GX.step (v' := .ptr 5 0) (heap' := [(0, .box (TPrefix.c p1)), (1, .box (TTable.c t5)), (2, .box (TTable.c u6)), (3, .row 10 28 (k7.map TCand.c)), (4, .box (TCand.c c156a)), (5, .box [.int .u32 0, .int .i64 0, .int .i64 0, .int .i64 0, .int .i64 0, .int .i64 0, .int .u32 0, .bool false, .int .i64 0, .nils])]) (next' := 6) rfl rfl rfl rfl rfl rfl rfl ?_
     refine GX.step0 (heap' := [(0, .box (TPrefix.c p1)), (1, .box (TTable.c t5)), (2, .box (TTable.c u6)), (3, .row 10 28 (k7.map TCand.c)), (4, .box (TCand.c c156a)), (5, .box (TCand.c c162a))]) (next' := 6) rfl rfl rfl rfl rfl ?_
     refine GX.m rfl ?_
     refine GX.done ?_
     refine WK.seq ?_
     refine WK.drawn mixed ?_
     generalize hc165 : F7_crossroadslaw25_alive = c165 at hR
     rcases c165 with _ | c165
     ·try dsimp only at hR
      cases hR
     try dsimp only at hR
     try dsimp only at hR
     refine RD.callp (r := .bool c165) rfl rfl rfl (f7_ok  _ hc165) rfl rfl ?_
     refine RD.m rfl ?_
     rcases bool_two (c165) with hb47 | hb47
     ·rw [hb47]; first | replace hR := cond_f hb47 hR | (try simp only [hb47, bb] at hR)
      iterate 7 refine RD.skip rfl rfl ?_
      refine RD.q (.bool false) ?_
      refine RD.m rfl ?_
      iterate 5 refine RD.skip rfl rfl ?_
      refine RD.q (.bool false) ?_
      refine RD.m rfl ?_
      iterate 3 refine RD.skip rfl rfl ?_
      refine RD.q (.bool false) ?_
      refine RD.m rfl ?_
      iterate 6 refine RD.skip rfl rfl ?_
      refine RD.q (.bool false) ?_
      refine RD.m rfl ?_
      refine RD.doneB [0, 1, 3, 7, 15, 3, 35, 127, 255, 511, 1023, 2047, 4095, 2047, 16383, 32767, 65535, 131071, 262143, 262143, 1048575, 2097151, 4194303, 8388607, 16777215, 33554431, 8388607, 75497471, 268435455, 536870911, 1073741823] (by kernel_rfl) (by kernel_rfl) (by kernel_rfl) ?_
      refine WK.ret ?_
      obtain rfl := Option.some.inj hR
      exact RetQ.fr [] (.inr rfl) rfl rfl rfl rfl
     ·rw [hb47]; first | replace hR := cond_t hb47 hR | (try simp only [hb47, bb] at hR)
      refine RD.q (.ptr 1 0) ?_
      refine RD.q (.ro 10 (t5.L.map TCand.c)) ?_
      generalize hc169 : F25_crossroadslaw25_rows t5.L = c169 at hR
      rcases c169 with _ | c169
      ·try dsimp only at hR
       cases hR
      try dsimp only at hR
      try dsimp only at hR
      refine RD.callp (r := .ro 10 (c169.map TCand.c)) rfl rfl rfl (f25_ok t5.L _ hc169) rfl rfl ?_
      refine RD.q (.ptr 2 0) ?_
      refine RD.q (.ro 10 (u6.L.map TCand.c)) ?_
      generalize hc172 : F25_crossroadslaw25_rows u6.L = c172 at hR
      rcases c172 with _ | c172
      ·try dsimp only at hR
       cases hR
      try dsimp only at hR
      try dsimp only at hR
      refine RD.callp (r := .ro 10 (c172.map TCand.c)) rfl rfl rfl (f25_ok u6.L _ hc172) rfl rfl ?_
      generalize hc173 : F24_crossroadsref25_Rows c169 c172 = c173 at hR
      try dsimp only at hR
      refine RD.callp (r := .bool c173) rfl rfl rfl (f24_ok c169 c172 _ hc173) rfl rfl ?_
      refine RD.q (.bool c173) ?_
      refine RD.m rfl ?_
      rcases bool_two (c173) with hb48 | hb48
      ·rw [hb48]; first | replace hR := cond_f hb48 hR | (try simp only [hb48, bb] at hR)
       iterate 5 refine RD.skip rfl rfl ?_
       refine RD.q (.bool false) ?_
       refine RD.m rfl ?_
       iterate 3 refine RD.skip rfl rfl ?_
       refine RD.q (.bool false) ?_
       refine RD.m rfl ?_
       iterate 6 refine RD.skip rfl rfl ?_
       refine RD.q (.bool false) ?_
       refine RD.m rfl ?_
       refine RD.doneB [0, 1, 3, 7, 15, 3, 35, 127, 255, 511, 1023, 2047, 4095, 2047, 16383, 32767, 65535, 131071, 262143, 262143, 1048575, 2097151, 4194303, 8388607, 16777215, 33554431, 8388607, 75497471, 268435455, 536870911, 1073741823] (by kernel_rfl) (by kernel_rfl) (by kernel_rfl) ?_
       refine WK.ret ?_
       obtain rfl := Option.some.inj hR
       exact RetQ.fr [] (.inr rfl) rfl rfl rfl rfl
      ·rw [hb48]; first | replace hR := cond_t hb48 hR | (try simp only [hb48, bb] at hR)
       refine RD.q (.agg (TCand.c c156a)) ?_
       generalize hc177 : F10_crossroadslaw25_plain c156a = c177 at hR
       rcases c177 with _ | c177
       ·try dsimp only at hR
        cases hR
       try dsimp only at hR
       try dsimp only at hR
       refine RD.callp (r := .agg [.int .u32 c177.P.A, .int .i64 c177.P.N, .int .i64 c177.Proto, .int .i64 c177.Inst, .int .i64 c177.Dist, .int .i64 c177.Metric, .int .u32 c177.Tag, .bool c177.Leaked, .int .i64 c177.From, .ro 2 (c177.Hops.map THop.c)]) rfl rfl rfl (f10_ok c156a _ hc177) rfl rfl ?_
       refine RD.q (.agg (TCand.c c162a)) ?_
       generalize hc179 : F10_crossroadslaw25_plain c162a = c179 at hR
       rcases c179 with _ | c179
       ·try dsimp only at hR
        cases hR
       try dsimp only at hR
       try dsimp only at hR
       refine RD.callp (r := .agg [.int .u32 c179.P.A, .int .i64 c179.P.N, .int .i64 c179.Proto, .int .i64 c179.Inst, .int .i64 c179.Dist, .int .i64 c179.Metric, .int .u32 c179.Tag, .bool c179.Leaked, .int .i64 c179.From, .ro 2 (c179.Hops.map THop.c)]) rfl rfl rfl (f10_ok c162a _ hc179) rfl rfl ?_
       generalize hc180 : F22_crossroadsref25_Same c177 c179 = c180 at hR
       try dsimp only at hR
       refine RD.callp (r := .bool c180) rfl rfl rfl (f22_ok c177 c179 _ hc180) rfl rfl ?_
       refine RD.q (.bool c180) ?_
       refine RD.m rfl ?_
       rcases bool_two (c180) with hb49 | hb49
       ·rw [hb49]; first | replace hR := cond_f hb49 hR | (try simp only [hb49, bb] at hR)
        iterate 3 refine RD.skip rfl rfl ?_
        refine RD.q (.bool false) ?_
        refine RD.m rfl ?_
        iterate 6 refine RD.skip rfl rfl ?_
        refine RD.q (.bool false) ?_
        refine RD.m rfl ?_
        refine RD.doneB [0, 1, 3, 7, 15, 3, 35, 127, 255, 511, 1023, 2047, 4095, 2047, 16383, 32767, 65535, 131071, 262143, 262143, 1048575, 2097151, 4194303, 8388607, 16777215, 33554431, 8388607, 75497471, 268435455, 536870911, 1073741823] (by kernel_rfl) (by kernel_rfl) (by kernel_rfl) ?_
        refine WK.ret ?_
        obtain rfl := Option.some.inj hR
        exact RetQ.fr [] (.inr rfl) rfl rfl rfl rfl
       ·rw [hb49]; first | replace hR := cond_t hb49 hR | (try simp only [hb49, bb] at hR)
        iterate 2 refine RD.m rfl ?_
        iterate 2 refine RD.q (.bool (c156b == c162b)) ?_
        refine RD.m rfl ?_
        rcases bool_two ((c156b == c162b)) with hb50 | hb50
        ·rw [hb50]; try simp only [hb50, bb] at hR
         iterate 6 refine RD.skip rfl rfl ?_
         refine RD.q (.bool false) ?_
         refine RD.m rfl ?_
         refine RD.doneB [0, 1, 3, 7, 15, 3, 35, 127, 255, 511, 1023, 2047, 4095, 2047, 16383, 32767, 65535, 131071, 262143, 262143, 1048575, 2097151, 4194303, 8388607, 16777215, 33554431, 8388607, 75497471, 268435455, 536870911, 1073741823] (by kernel_rfl) (by kernel_rfl) (by kernel_rfl) ?_
         refine WK.ret ?_
         obtain rfl := Option.some.inj hR
         exact RetQ.fr [] (.inr rfl) rfl rfl rfl rfl
        ·rw [hb50]; try simp only [hb50, bb] at hR
         refine RD.q (.ptr 1 0) ?_
         refine RD.q (.ro 10 (t5.L.map TCand.c)) ?_
         refine RD.pure (v' := .int .i64 (t5.L.length : Int)) rfl rfl rfl rfl (len_map _ _) ?_
         refine RD.m rfl ?_
         refine RD.q (.int .i64 (k7.length : Int)) ?_
         iterate 2 refine RD.q (.bool (decide ((t5.L.length : Int) = (k7.length : Int)))) ?_
         refine RD.m rfl ?_
         refine RD.doneB [0, 1, 3, 7, 15, 3, 35, 127, 255, 511, 1023, 2047, 4095, 2047, 16383, 32767, 65535, 131071, 262143, 262143, 1048575, 2097151, 4194303, 8388607, 16777215, 33554431, 8388607, 75497471, 268435455, 536870911, 1073741823] (by kernel_rfl) (by kernel_rfl) (by kernel_rfl) ?_
         refine WK.ret ?_
         obtain rfl := Option.some.inj hR
         exact RetQ.fr [] (.inr rfl) rfl rfl rfl rfl
    ·rw [hb46]
     obtain ⟨x11, hx45, hd45, hlt45⟩ := drop_more hb46
     rw [hd45, F5_crossroadslaw25_RibOrder_l2] at hL_45
     refine WK.condT rfl ?_
     refine WK.skip ?_
     refine WK.seq ?_
     refine WK.blockK (fun _ hK51 => ?_)
     refine WK.seq ?_
     refine WK.drawn mixed ?_
     refine RD.q (.agg (TTable.c t5)) ?_
     iterate 2 refine RD.m rfl ?_
     refine RD.pure (v' := .eptr 3 10 i11 0) rfl rfl rfl (core_idxoT (c := TCand.c) (L := k7) (j := i11) rfl (by omega) (by omega) (by exact Nat.le_refl _)) rfl ?_
     refine RD.pure (v' := .agg (TCand.c x11)) rfl rfl rfl (core_loaT (c := TCand.c) (L := k7) (x := x11) rfl hx45 rfl) rfl ?_
     generalize hc98 : F23_rib_Put t5 x11 = c98 at hL_45
     rcases c98 with _ | c98
     ·try dsimp only at hL_45
      subst hL_45
      try dsimp only at hR
      cases hR
     try dsimp only at hL_45
     obtain ⟨c98a, c98b⟩ := c98; try dsimp only at hL_45
     refine RD.callp (r := .tup [.agg [.ro 10 (c98a.L.map TCand.c)], .int .i64 c98b]) rfl rfl rfl (f23_ok t5 x11 _ hc98) rfl rfl ?_
     refine RD.m rfl ?_
     refine RD.q (.agg [.ro 10 (c98a.L.map TCand.c)]) ?_
     refine RD.q (.int .i64 c98b) ?_
     refine RD.step (v' := .ptr 4 0) (heap' := [(0, .box (TPrefix.c p1)), (1, .box (TTable.c t5)), (2, .box (TTable.c u6)), (3, .row 10 28 (k7.map TCand.c)), (4, .box [.nils])]) (next' := 5) rfl rfl rfl rfl rfl rfl rfl ?_
     refine RD.step0 (heap' := [(0, .box (TPrefix.c p1)), (1, .box (TTable.c t5)), (2, .box (TTable.c u6)), (3, .row 10 28 (k7.map TCand.c)), (4, .box (TTable.c c98a))]) (next' := 5) rfl rfl rfl rfl rfl ?_
     refine RD.m rfl ?_
     refine RD.done rfl ?_
     refine WK.sr mixed ?_
     refine GX.q (.agg (TTable.c c98a)) ?_
     refine GX.step0 (heap' := [(0, .box (TPrefix.c p1)), (1, .box (TTable.c c98a)), (2, .box (TTable.c u6)), (3, .row 10 28 (k7.map TCand.c)), (4, .box (TTable.c c98a))]) (next' := 5) rfl rfl rfl rfl rfl ?_
     refine GX.done ?_
     refine WK.seq ?_
     refine WK.drawn mixed ?_
     refine RD.q (.agg (TTable.c u6)) ?_
     iterate 2 refine RD.m rfl ?_
     refine RD.q (.int .i64 (k7.length : Int)) ?_
     refine RD.q (.int .i64 (IntKind.i64.wrap ((k7.length : Int) - 1))) ?_
     refine RD.m rfl ?_
     refine RD.q (.int .i64 (IntKind.i64.wrap ((IntKind.i64.wrap ((k7.length : Int) - 1)) - (i11 : Int)))) ?_
     generalize hx951 : getI k7 (IntKind.i64.wrap ((IntKind.i64.wrap ((k7.length : Int) - 1)) - (i11 : Int))) = x951 at hL_45
     rcases x951 with _ | x951
     ·try dsimp only at hL_45
      subst hL_45
      try dsimp only at hR
      cases hR
     try dsimp only at hL_45
     obtain ⟨hx9510, hx951j, hx951l, hx951⟩ := getI_some hx951
     refine RD.pure (v' := .eptr 3 10 ((IntKind.i64.wrap ((IntKind.i64.wrap ((k7.length : Int) - 1)) - (i11 : Int))).toNat) 0) rfl rfl rfl (core_idxoT (c := TCand.c) (L := k7) (j := (IntKind.i64.wrap ((IntKind.i64.wrap ((k7.length : Int) - 1)) - (i11 : Int))).toNat) rfl hx951j hx951l (by exact Nat.le_refl _)) rfl ?_
     refine RD.pure (v' := .agg (TCand.c x951)) rfl rfl rfl (core_loaT (c := TCand.c) (L := k7) (x := x951) rfl hx951 rfl) rfl ?_
     generalize hc112 : F23_rib_Put u6 x951 = c112 at hL_45
     rcases c112 with _ | c112
     ·try dsimp only at hL_45
      subst hL_45
      try dsimp only at hR
      cases hR
     try dsimp only at hL_45
     obtain ⟨c112a, c112b⟩ := c112; try dsimp only at hL_45
     refine RD.callp (r := .tup [.agg [.ro 10 (c112a.L.map TCand.c)], .int .i64 c112b]) rfl rfl rfl (f23_ok u6 x951 _ hc112) rfl rfl ?_
     refine RD.m rfl ?_
     refine RD.q (.agg [.ro 10 (c112a.L.map TCand.c)]) ?_
     refine RD.q (.int .i64 c112b) ?_
     refine RD.step (v' := .ptr 5 0) (heap' := [(0, .box (TPrefix.c p1)), (1, .box (TTable.c c98a)), (2, .box (TTable.c u6)), (3, .row 10 28 (k7.map TCand.c)), (4, .box (TTable.c c98a)), (5, .box [.nils])]) (next' := 6) rfl rfl rfl rfl rfl rfl rfl ?_
     refine RD.step0 (heap' := [(0, .box (TPrefix.c p1)), (1, .box (TTable.c c98a)), (2, .box (TTable.c u6)), (3, .row 10 28 (k7.map TCand.c)), (4, .box (TTable.c c98a)), (5, .box (TTable.c c112a))]) (next' := 6) rfl rfl rfl rfl rfl ?_
     refine RD.m rfl ?_
     refine RD.done rfl ?_
     refine WK.sr mixed ?_
     refine GX.q (.agg (TTable.c c112a)) ?_
     refine GX.step0 (heap' := [(0, .box (TPrefix.c p1)), (1, .box (TTable.c c98a)), (2, .box (TTable.c c112a)), (3, .row 10 28 (k7.map TCand.c)), (4, .box (TTable.c c98a)), (5, .box (TTable.c c112a))]) (next' := 6) rfl rfl rfl rfl rfl ?_
     refine GX.done ?_
     refine WK.sr mixed ?_
     refine GX.m rfl ?_
     refine GX.done ?_
     generalize hZ_53 : F5_crossroadslaw25_RibOrder_l1 k7 i11 x11 (fuelUp 0 (i11 : Int)) 0 = Z_53 at hL_45
     refine WK.forK (fun k s => ∃ (i16 : Int), fuelUp i16 (i11 : Int) ≤ k ∧ 0 ≤ i16 ∧ F5_crossroadslaw25_RibOrder_l1 k7 i11 x11 k i16 = Z_53 ∧ s = ⟨[(3, .ptr 0 0), (5, .ptr 1 0), (6, .ptr 2 0), (7, .own 3 10 0 k7.length), (11, .int .i64 (i11 : Int)), (16, .int .i64 i16)], [(0, .box (TPrefix.c p1)), (1, .box (TTable.c c98a)), (2, .box (TTable.c c112a)), (3, .row 10 28 (k7.map TCand.c))], 4⟩) (fuelUp 0 (i11 : Int)) ⟨⟨[(3, .ptr 0 0), (5, .ptr 1 0), (6, .ptr 2 0), (7, .own 3 10 0 k7.length), (11, .int .i64 (i11 : Int)), (16, .int .i64 0)], [(0, .box (TPrefix.c p1)), (1, .box (TTable.c c98a)), (2, .box (TTable.c c112a)), (3, .row 10 28 (k7.map TCand.c))], 4⟩, Conv.keep [0, 1, 2, 3] [] [3, 5, 6, 7, 11, 16] rfl rfl (viewE_cons rfl rfl (viewE_cons rfl rfl (viewE_cons rfl rfl (viewE_cons rfl rfl (viewE_cons rfl rfl (viewE_cons rfl rfl viewE_nil)))))) rfl rfl, 0, Nat.le_refl _, (by omega), hZ_53, rfl⟩ ?_
     rintro k53 _ ⟨i16, hfu53, hinv53_c0, hL_53, rfl⟩ again_53 out_53 Q_53 hagain_53 hout_53 hQ_53
     refine WK.seq ?_
     refine WK.sr mixed ?_
     iterate 2 refine GX.m rfl ?_
     refine GX.q (.bool (decide (i16 < (i11 : Int)))) ?_
     refine GX.done ?_
     rcases bool_two (decide (i16 < (i11 : Int))) with hb54 | hb54
     ·rw [hb54]
      unfold F5_crossroadslaw25_RibOrder_l1 at hL_53; rw [hb54, cond_false] at hL_53
      refine WK.condF rfl ?_
      refine WK.exit ?_
      refine QF.exit (hout_53 _ ?_)
      subst hL_53
      try dsimp only [cond_true, cond_false] at hL_45
      refine WK.nil (QF.normal (hK51 _ ?_))
      refine WK.regx mixed ?_
      refine GX.m rfl ?_
      refine GX.pure (v' := .int .i64 ((i11 + 1 : Nat) : Int)) rfl rfl rfl rfl (congrArg (PVal.int .i64) (wrap_up hlt45 hlen_45)) ?_
      refine GX.m rfl ?_
      refine GX.done ?_
      refine WK.nil (QF.normal ?_)
      exact hagain_45 _ (k7.length - (i11 + 1)) ⟨[(3, .ptr 0 0), (5, .ptr 1 0), (6, .ptr 2 0), (7, .own 3 10 0 k7.length), (11, .int .i64 ((i11 + 1) : Int))], [(0, .box (TPrefix.c p1)), (1, .box (TTable.c c98a)), (2, .box (TTable.c c112a)), (3, .row 10 28 (k7.map TCand.c))], 4⟩ (by omega) (Conv.keep [0, 1, 2, 3] [] [3, 5, 6, 7, 11] rfl rfl (viewE_cons rfl rfl (viewE_cons rfl rfl (viewE_cons rfl rfl (viewE_cons rfl rfl (viewE_cons rfl rfl viewE_nil))))) rfl rfl) ⟨i11 + 1, c98a, c112a, (by omega), rfl, hL_45, rfl⟩
     ·rw [hb54]
      obtain ⟨f53, rfl⟩ := fuel_pos hb54 hfu53
      unfold F5_crossroadslaw25_RibOrder_l1 at hL_53; rw [hb54, cond_true] at hL_53; dsimp only at hL_53
      refine WK.condT rfl ?_
      refine WK.skip ?_
      refine WK.seq ?_
      refine WK.blockK (fun _ hK55 => ?_)
      refine WK.seq ?_
      refine WK.drawn mixed ?_
      iterate 2 refine RD.m rfl ?_
      generalize hx955 : getI k7 i16 = x955 at hL_53
      rcases x955 with _ | x955
      ·try dsimp only at hL_53
       subst hL_53
       try dsimp only at hL_45
       subst hL_45
       try dsimp only at hR
       cases hR
      try dsimp only at hL_53
      obtain ⟨hx9550, hx955j, hx955l, hx955⟩ := getI_some hx955
      refine RD.pure (v' := .eptr 3 10 i16.toNat 0) rfl rfl rfl (core_idxoT (c := TCand.c) (L := k7) (j := i16.toNat) rfl hx955j hx955l (by exact Nat.le_refl _)) rfl ?_
      refine RD.pure (v' := .eptr 3 10 i16.toNat 0) rfl rfl rfl (core_fldT (c := TCand.c) (L := k7) rfl (by omega) rfl) rfl ?_
      refine RD.pure (v' := .agg [.int .u32 x955.P.A, .int .i64 x955.P.N]) rfl rfl rfl (core_loaT (c := TCand.c) (L := k7) (x := x955) rfl hx955 rfl) rfl ?_
      iterate 2 refine RD.m rfl ?_
      refine RD.pure (v' := .eptr 3 10 i11 0) rfl rfl rfl (core_idxoT (c := TCand.c) (L := k7) (j := i11) rfl (by omega) (by omega) (by exact Nat.le_refl _)) rfl ?_
      refine RD.pure (v' := .eptr 3 10 i11 0) rfl rfl rfl (core_fldT (c := TCand.c) (L := k7) rfl (by omega) rfl) rfl ?_
      refine RD.pure (v' := .agg [.int .u32 x11.P.A, .int .i64 x11.P.N]) rfl rfl rfl (core_loaT (c := TCand.c) (L := k7) (x := x11) rfl hx45 rfl) rfl ?_
      refine RD.q (.bool (decide (x955.P.A = x11.P.A) && (decide (x955.P.N = x11.P.N) && true))) ?_
      refine RD.m rfl ?_
      rcases bool_two ((decide (x955.P.A = x11.P.A) && (decide (x955.P.N = x11.P.N) && true))) with hb57 | hb57
      ·rw [hb57]; try simp only [hb57, bb] at hL_53
       iterate 19 refine RD.skip rfl rfl ?_
       refine RD.q (.bool false) ?_
       refine RD.doneB [0, 0, 3, 7, 15, 0, 0, 96, 224, 480, 1023, 2047, 4095, 4095, 16383, 32767, 4095, 4095, 200703, 462847, 1048575, 4095, 4095, 6295551, 14684159, 4095, 4095, 100667391, 234885119, 536870911, 1073741823, 2147483647] (by kernel_rfl) (by kernel_rfl) (by kernel_rfl) ?_
       refine WK.condF rfl ?_
       refine WK.skip ?_
       refine WK.nil (QF.normal (hK55 _ ?_))
       refine WK.regx mixed ?_
       refine GX.m rfl ?_
       refine GX.q (.int .i64 (IntKind.i64.wrap (i16 + 1))) ?_
       refine GX.m rfl ?_
       refine GX.done ?_
       refine WK.nil (QF.normal ?_)
       exact hagain_53 _ f53 ⟨[(3, .ptr 0 0), (5, .ptr 1 0), (6, .ptr 2 0), (7, .own 3 10 0 k7.length), (11, .int .i64 (i11 : Int)), (16, .int .i64 (IntKind.i64.wrap (i16 + 1)))], [(0, .box (TPrefix.c p1)), (1, .box (TTable.c c98a)), (2, .box (TTable.c c112a)), (3, .row 10 28 (k7.map TCand.c))], 4⟩ (Nat.lt_succ_self _) (Conv.keep [0, 1, 2, 3] [] [3, 5, 6, 7, 11, 16] rfl rfl (viewE_cons rfl rfl (viewE_cons rfl rfl (viewE_cons rfl rfl (viewE_cons rfl rfl (viewE_cons rfl rfl (viewE_cons rfl rfl viewE_nil)))))) rfl rfl) ⟨(IntKind.i64.wrap (i16 + 1)), fuel_up hb54 (by omega) hfu53, (by ((try simp only [List.length_append, List.length_cons, List.length_nil, decide_eq_true_eq, decide_eq_false_iff_not] at *) <;> first | omega | (rw [wrap64_of (by omega) (by omega)]; omega))), hL_53, rfl⟩
      ·rw [hb57]; try simp only [hb57, bb] at hL_53
       iterate 2 refine RD.m rfl ?_
       refine RD.pure (v' := .eptr 3 10 i16.toNat 0) rfl rfl rfl (core_idxoT (c := TCand.c) (L := k7) (j := i16.toNat) rfl hx955j hx955l (by exact Nat.le_refl _)) rfl ?_
       refine RD.pure (v' := .agg (TCand.c x955)) rfl rfl rfl (core_loaT (c := TCand.c) (L := k7) (x := x955) rfl hx955 rfl) rfl ?_
       iterate 2 refine RD.m rfl ?_
       refine RD.pure (v' := .eptr 3 10 i11 0) rfl rfl rfl (core_idxoT (c := TCand.c) (L := k7) (j := i11) rfl (by omega) (by omega) (by exact Nat.le_refl _)) rfl ?_
       refine RD.pure (v' := .agg (TCand.c x11)) rfl rfl rfl (core_loaT (c := TCand.c) (L := k7) (x := x11) rfl hx45 rfl) rfl ?_
       generalize hc141 : F16_rib_Better x955 x11 = c141 at hL_53
       try dsimp only at hL_53
       refine RD.callp (r := .bool c141) rfl rfl rfl (f16_ok x955 x11 _ hc141) rfl rfl ?_
       iterate 2 refine RD.m rfl ?_
       refine RD.pure (v' := .eptr 3 10 i11 0) rfl rfl rfl (core_idxoT (c := TCand.c) (L := k7) (j := i11) rfl (by omega) (by omega) (by exact Nat.le_refl _)) rfl ?_
       refine RD.pure (v' := .agg (TCand.c x11)) rfl rfl rfl (core_loaT (c := TCand.c) (L := k7) (x := x11) rfl hx45 rfl) rfl ?_
       iterate 2 refine RD.m rfl ?_
       refine RD.pure (v' := .eptr 3 10 i16.toNat 0) rfl rfl rfl (core_idxoT (c := TCand.c) (L := k7) (j := i16.toNat) rfl hx955j hx955l (by exact Nat.le_refl _)) rfl ?_
       refine RD.pure (v' := .agg (TCand.c x955)) rfl rfl rfl (core_loaT (c := TCand.c) (L := k7) (x := x955) rfl hx955 rfl) rfl ?_
       generalize hc150 : F16_rib_Better x11 x955 = c150 at hL_53
       try dsimp only at hL_53
       refine RD.callp (r := .bool c150) rfl rfl rfl (f16_ok x11 x955 _ hc150) rfl rfl ?_
       iterate 2 refine RD.q (.bool (c141 == c150)) ?_
       refine RD.doneB [0, 0, 3, 7, 15, 0, 0, 96, 224, 480, 1023, 2047, 4095, 4095, 16383, 32767, 4095, 4095, 200703, 462847, 1048575, 4095, 4095, 6295551, 14684159, 4095, 4095, 100667391, 234885119, 536870911, 1073741823, 2147483647] (by kernel_rfl) (by kernel_rfl) (by kernel_rfl) ?_
       rcases bool_two ((c141 == c150)) with hb58 | hb58
       ·rw [hb58]; try simp only [hb58, bb] at hL_53
        refine WK.condF rfl ?_
        refine WK.skip ?_
        refine WK.nil (QF.normal (hK55 _ ?_))
        refine WK.regx mixed ?_
        refine GX.m rfl ?_
        refine GX.q (.int .i64 (IntKind.i64.wrap (i16 + 1))) ?_
        refine GX.m rfl ?_
        refine GX.done ?_
        refine WK.nil (QF.normal ?_)
        exact hagain_53 _ f53 ⟨[(3, .ptr 0 0), (5, .ptr 1 0), (6, .ptr 2 0), (7, .own 3 10 0 k7.length), (11, .int .i64 (i11 : Int)), (16, .int .i64 (IntKind.i64.wrap (i16 + 1)))], [(0, .box (TPrefix.c p1)), (1, .box (TTable.c c98a)), (2, .box (TTable.c c112a)), (3, .row 10 28 (k7.map TCand.c))], 4⟩ (Nat.lt_succ_self _) (Conv.keep [0, 1, 2, 3] [] [3, 5, 6, 7, 11, 16] rfl rfl (viewE_cons rfl rfl (viewE_cons rfl rfl (viewE_cons rfl rfl (viewE_cons rfl rfl (viewE_cons rfl rfl (viewE_cons rfl rfl viewE_nil)))))) rfl rfl) ⟨(IntKind.i64.wrap (i16 + 1)), fuel_up hb54 (by omega) hfu53, (by ((try simp only [List.length_append, List.length_cons, List.length_nil, decide_eq_true_eq, decide_eq_false_iff_not] at *) <;> first | omega | (rw [wrap64_of (by omega) (by omega)]; omega))), hL_53, rfl⟩
       ·rw [hb58]; try simp only [hb58, bb] at hL_53
        refine WK.condT rfl ?_
        refine WK.sr mixed ?_
        refine GX.m rfl ?_
        refine GX.done ?_
        refine WK.ret ?_
        refine QF.ret ?_
        refine QF.ret (hQ_53 _ _ ?_)
        refine QF.ret ?_
        refine QF.ret (hQ_45 _ _ ?_)
        subst hL_53
        try dsimp only at hL_45
        subst hL_45
        try dsimp only at hR
        obtain rfl := Option.some.inj hR
        exact RetQ.fr [] (.inr rfl) rfl rfl rfl rfl
   ·rw [hb14]
    obtain ⟨x8, hx13, hd13, hlt13⟩ := drop_more hb14
    rw [hd13, F5_crossroadslaw25_RibOrder_l4] at hL_13
    refine WK.condT rfl ?_
    refine WK.skip ?_
    refine WK.seq ?_
    refine WK.blockK (fun _ hK59 => ?_)
    refine WK.sr mixed ?_
    refine GX.m rfl ?_
    refine GX.done ?_
    refine WK.seq ?_
    refine WK.sr mixed ?_
    refine GX.m rfl ?_
    refine GX.done ?_
    refine WK.leno (id := 3) rfl (by simp) (fun hlen_66 => ?_)
    rw [List.length_map] at hlen_66
    generalize hZ_66 : F5_crossroadslaw25_RibOrder_l3 x8 false k7 = Z_66 at hL_13
    refine WK.forK (fun k s => ∃ (i10 : Nat) (again9 : Bool), i10 ≤ k7.length ∧ k = k7.length - i10 ∧ F5_crossroadslaw25_RibOrder_l3 x8 again9 (k7.drop i10) = Z_66 ∧ s = ⟨[(0, .ro 10 (l0.map TCand.c)), (3, .ptr 0 0), (5, .ptr 1 0), (6, .ptr 2 0), (7, .own 3 10 0 k7.length), (8, .int .i64 (i8 : Int)), (9, .bool again9), (10, .int .i64 (i10 : Int))], [(0, .box (TPrefix.c p1)), (1, .box [.nils]), (2, .box [.nils]), (3, .row 10 28 (k7.map TCand.c))], 4⟩) k7.length ⟨⟨[(0, .ro 10 (l0.map TCand.c)), (3, .ptr 0 0), (5, .ptr 1 0), (6, .ptr 2 0), (7, .own 3 10 0 k7.length), (8, .int .i64 (i8 : Int)), (9, .bool false), (10, .int .i64 (0 : Int))], [(0, .box (TPrefix.c p1)), (1, .box [.nils]), (2, .box [.nils]), (3, .row 10 28 (k7.map TCand.c))], 4⟩, Conv.keep [0, 1, 2, 3] [] [0, 3, 5, 6, 7, 8, 9, 10] rfl rfl (viewE_cons rfl rfl (viewE_cons rfl rfl (viewE_cons rfl rfl (viewE_cons rfl rfl (viewE_cons rfl rfl (viewE_cons rfl rfl (viewE_cons rfl rfl (viewE_cons rfl rfl viewE_nil)))))))) rfl rfl, 0, false, (by omega), rfl, hZ_66, rfl⟩ ?_
    rintro _ _ ⟨i10, again9, hi_66, rfl, hL_66, rfl⟩ again_66 out_66 Q_66 hagain_66 hout_66 hQ_66
    refine WK.seq ?_
    refine WK.sr mixed ?_
    iterate 2 refine GX.m rfl ?_
    refine GX.q (.int .i64 (k7.length : Int)) ?_
    refine GX.q (.bool (decide ((i10 : Int) < (k7.length : Int)))) ?_
    refine GX.done ?_
    rcases bool_two (decide ((i10 : Int) < (k7.length : Int))) with hb67 | hb67
    ·rw [hb67]
     rw [drop_end hb67, F5_crossroadslaw25_RibOrder_l3] at hL_66
     refine WK.condF rfl ?_
     refine WK.exit ?_
     refine QF.exit (hout_66 _ ?_)
     subst hL_66
     try dsimp only [cond_true, cond_false] at hL_13
     refine WK.sr mixed ?_
     iterate 2 refine GX.m rfl ?_
     refine GX.idxT (c := TCand.c) (x := x8) rfl rfl rfl (Int.natCast_nonneg _) hx13 ?_
     refine GX.q (.agg (TCand.c x8)) ?_
     generalize hc74 : F8_rib_May x8 = c74 at hL_13
     try dsimp only at hL_13
     refine GX.callp (r := .bool c74) rfl rfl rfl (f8_ok x8 _ hc74) rfl rfl ?_
     refine GX.m rfl ?_
     rcases bool_two (c74) with hb68 | hb68
     ·rw [hb68]; try simp only [hb68, bb] at hL_13
      iterate 2 refine GX.skip rfl rfl ?_
      refine GX.q (.bool false) ?_
      refine GX.done ?_
      refine WK.condF rfl ?_
      refine WK.skip ?_
      refine WK.nil (QF.normal (hK59 _ ?_))
      refine WK.regx mixed ?_
      refine GX.m rfl ?_
      refine GX.pure (v' := .int .i64 ((i8 + 1 : Nat) : Int)) rfl rfl rfl rfl (congrArg (PVal.int .i64) (wrap_up hlt13 hlen_13)) ?_
      refine GX.m rfl ?_
      refine GX.done ?_
      refine WK.nil (QF.normal ?_)
      exact hagain_13 _ (l0.length - (i8 + 1)) ⟨[(0, .ro 10 (l0.map TCand.c)), (3, .ptr 0 0), (5, .ptr 1 0), (6, .ptr 2 0), (7, .own 3 10 0 k7.length), (8, .int .i64 ((i8 + 1) : Int))], [(0, .box (TPrefix.c p1)), (1, .box [.nils]), (2, .box [.nils]), (3, .row 10 28 (k7.map TCand.c))], 4⟩ (by omega) (Conv.keep [0, 1, 2, 3] [] [0, 3, 5, 6, 7, 8] rfl rfl (viewE_cons rfl rfl (viewE_cons rfl rfl (viewE_cons rfl rfl (viewE_cons rfl rfl (viewE_cons rfl rfl (viewE_cons rfl rfl viewE_nil)))))) rfl rfl) ⟨i8 + 1, k7, (by omega), rfl, hL_13, rfl⟩
     ·rw [hb68]; try simp only [hb68, bb] at hL_13
      refine GX.m rfl ?_
      iterate 2 refine GX.q (.bool (!again9)) ?_
      refine GX.done ?_
      rcases bool_two (again9) with hb69 | hb69
      ·rw [hb69]; try simp only [hb69, bb] at hL_13
       refine WK.condT rfl ?_
       refine WK.regx mixed ?_
       iterate 3 refine GX.m rfl ?_
       refine GX.idxT (c := TCand.c) (x := x8) rfl rfl rfl (Int.natCast_nonneg _) hx13 ?_
       refine GX.q (.agg (TCand.c x8)) ?_
       refine GX.step (v' := .own 4 10 0 (([x8] : List TCand)).length) (heap' := [(0, .box (TPrefix.c p1)), (1, .box [.nils]), (2, .box [.nils]), (3, .row 10 28 (k7.map TCand.c)), (4, .row 10 28 (([x8] : List TCand).map TCand.c))]) (next' := 5) rfl rfl rfl rfl rfl rfl rfl ?_
       rcases bool_two (decide (k7.length < 1099511627776)) with hg70 | hg70
       ·simp only [hg70, bb] at hL_13
        try dsimp only at hL_13
        subst hL_13
        try dsimp only at hR
        cases hR
       simp only [hg70, bb] at hL_13
       have hg70_ := of_decide_eq_true hg70
       refine GX.appT (c := TCand.c) (L := k7) (X := ([x8] : List TCand)) (heap' := [(0, .box (TPrefix.c p1)), (1, .box [.nils]), (2, .box [.nils]), (4, .row 10 28 (([x8] : List TCand).map TCand.c)), (5, .row 10 28 ((k7 ++ ([x8] : List TCand)).map TCand.c))]) (next' := 6) rfl rfl rfl rfl (elems_own rfl) (by ((try simp only [List.length_append, List.length_cons, List.length_nil, List.length_map, decide_eq_true_eq, decide_eq_false_iff_not] at *) <;> omega)) (by ((try simp only [List.length_append, List.length_cons, List.length_nil, List.length_map, decide_eq_true_eq, decide_eq_false_iff_not] at *) <;> omega)) rfl rfl rfl rfl ?_
       refine GX.m rfl ?_
       refine GX.done ?_
       refine WK.nil (QF.normal (hK59 _ ?_))
       refine WK.regx mixed ?_
       refine GX.m rfl ?_
       refine GX.pure (v' := .int .i64 ((i8 + 1 : Nat) : Int)) rfl rfl rfl rfl (congrArg (PVal.int .i64) (wrap_up hlt13 hlen_13)) ?_
       refine GX.m rfl ?_
       refine GX.done ?_
       refine WK.nil (QF.normal ?_)
       exact hagain_13 _ (l0.length - (i8 + 1)) ⟨[(0, .ro 10 (l0.map TCand.c)), (3, .ptr 0 0), (5, .ptr 1 0), (6, .ptr 2 0), (7, .own 3 10 0 (k7 ++ ([x8] : List TCand)).length), (8, .int .i64 ((i8 + 1) : Int))], [(0, .box (TPrefix.c p1)), (1, .box [.nils]), (2, .box [.nils]), (3, .row 10 28 ((k7 ++ ([x8] : List TCand)).map TCand.c))], 4⟩ (by omega) (Conv.keep [0, 1, 2, 5] [] [0, 3, 5, 6, 7, 8] rfl rfl (viewE_cons rfl rfl (viewE_cons rfl rfl (viewE_cons rfl rfl (viewE_cons rfl rfl (viewE_cons rfl rfl (viewE_cons rfl rfl viewE_nil)))))) rfl rfl) ⟨i8 + 1, (k7 ++ ([x8] : List TCand)), (by omega), rfl, hL_13, rfl⟩
      ·rw [hb69]; try simp only [hb69, bb] at hL_13
       refine WK.condF rfl ?_
       refine WK.skip ?_
       refine WK.nil (QF.normal (hK59 _ ?_))
       refine WK.regx mixed ?_
       refine GX.m rfl ?_
       refine GX.pure (v' := .int .i64 ((i8 + 1 : Nat) : Int)) rfl rfl rfl rfl (congrArg (PVal.int .i64) (wrap_up hlt13 hlen_13)) ?_
       refine GX.m rfl ?_
       refine GX.done ?_
       refine WK.nil (QF.normal ?_)
       exact hagain_13 _ (l0.length - (i8 + 1)) ⟨[(0, .ro 10 (l0.map TCand.c)), (3, .ptr 0 0), (5, .ptr 1 0), (6, .ptr 2 0), (7, .own 3 10 0 k7.length), (8, .int .i64 ((i8 + 1) : Int))], [(0, .box (TPrefix.c p1)), (1, .box [.nils]), (2, .box [.nils]), (3, .row 10 28 (k7.map TCand.c))], 4⟩ (by omega) (Conv.keep [0, 1, 2, 3] [] [0, 3, 5, 6, 7, 8] rfl rfl (viewE_cons rfl rfl (viewE_cons rfl rfl (viewE_cons rfl rfl (viewE_cons rfl rfl (viewE_cons rfl rfl (viewE_cons rfl rfl viewE_nil)))))) rfl rfl) ⟨i8 + 1, k7, (by omega), rfl, hL_13, rfl⟩
    ·rw [hb67]
     obtain ⟨x10, hx66, hd66, hlt66⟩ := drop_more hb67
     rw [hd66, F5_crossroadslaw25_RibOrder_l3] at hL_66
     refine WK.condT rfl ?_
     refine WK.skip ?_
     refine WK.seq ?_
     refine WK.blockK (fun _ hK71 => ?_)
     refine WK.drawn mixed ?_
     iterate 2 refine RD.m rfl ?_
     rcases bool_two (again9) with hb72 | hb72
     ·rw [hb72]; try simp only [hb72, bb] at hL_66
      iterate 2 refine RD.m rfl ?_
      refine RD.pure (v' := .eptr 3 10 i10 0) rfl rfl rfl (core_idxoT (c := TCand.c) (L := k7) (j := i10) rfl (by omega) (by omega) (by exact Nat.le_refl _)) rfl ?_
      refine RD.pure (v' := .agg (TCand.c x10)) rfl rfl rfl (core_loaT (c := TCand.c) (L := k7) (x := x10) rfl hx66 rfl) rfl ?_
      iterate 2 refine RD.m rfl ?_
      refine RD.idxT (c := TCand.c) (x := x8) rfl rfl rfl (Int.natCast_nonneg _) hx13 ?_
      refine RD.q (.agg (TCand.c x8)) ?_
      generalize hc55 : F14_rib_Less x10 x8 = c55 at hL_66
      try dsimp only at hL_66
      refine RD.callp (r := .bool c55) rfl rfl rfl (f14_ok x10 x8 _ hc55) rfl rfl ?_
      refine RD.q (.bool (!c55)) ?_
      refine RD.m rfl ?_
      rcases bool_two (c55) with hb73 | hb73
      ·rw [hb73]; try simp only [hb73, bb] at hL_66
       iterate 2 refine RD.m rfl ?_
       refine RD.idxT (c := TCand.c) (x := x8) rfl rfl rfl (Int.natCast_nonneg _) hx13 ?_
       refine RD.q (.agg (TCand.c x8)) ?_
       iterate 2 refine RD.m rfl ?_
       refine RD.pure (v' := .eptr 3 10 i10 0) rfl rfl rfl (core_idxoT (c := TCand.c) (L := k7) (j := i10) rfl (by omega) (by omega) (by exact Nat.le_refl _)) rfl ?_
       refine RD.pure (v' := .agg (TCand.c x10)) rfl rfl rfl (core_loaT (c := TCand.c) (L := k7) (x := x10) rfl hx66 rfl) rfl ?_
       generalize hc66 : F14_rib_Less x8 x10 = c66 at hL_66
       try dsimp only at hL_66
       refine RD.callp (r := .bool c66) rfl rfl rfl (f14_ok x8 x10 _ hc66) rfl rfl ?_
       iterate 3 refine RD.q (.bool (!c66)) ?_
       refine RD.m rfl ?_
       refine RD.doneB [0, 1, 3, 3, 15, 31, 3, 3, 195, 451, 1023, 2047, 4095, 8191, 8191, 32767, 65535, 8191, 8191, 401407, 925695, 2097151, 4194303, 8388607, 16777215, 33554431] (by kernel_rfl) (by kernel_rfl) (by kernel_rfl) ?_
       refine WK.nil (QF.normal (hK71 _ ?_))
       refine WK.regx mixed ?_
       refine GX.m rfl ?_
       refine GX.pure (v' := .int .i64 ((i10 + 1 : Nat) : Int)) rfl rfl rfl rfl (congrArg (PVal.int .i64) (wrap_up hlt66 hlen_66)) ?_
       refine GX.m rfl ?_
       refine GX.done ?_
       refine WK.nil (QF.normal ?_)
       exact hagain_66 _ (k7.length - (i10 + 1)) ⟨[(0, .ro 10 (l0.map TCand.c)), (3, .ptr 0 0), (5, .ptr 1 0), (6, .ptr 2 0), (7, .own 3 10 0 k7.length), (8, .int .i64 (i8 : Int)), (9, .bool (!c66)), (10, .int .i64 ((i10 + 1) : Int))], [(0, .box (TPrefix.c p1)), (1, .box [.nils]), (2, .box [.nils]), (3, .row 10 28 (k7.map TCand.c))], 4⟩ (by omega) (Conv.keep [0, 1, 2, 3] [] [0, 3, 5, 6, 7, 8, 9, 10] rfl rfl (viewE_cons rfl rfl (viewE_cons rfl rfl (viewE_cons rfl rfl (viewE_cons rfl rfl (viewE_cons rfl rfl (viewE_cons rfl rfl (viewE_cons rfl rfl (viewE_cons rfl rfl viewE_nil)))))))) rfl rfl) ⟨i10 + 1, (!c66), (by omega), rfl, hL_66, rfl⟩
      ·rw [hb73]; try simp only [hb73, bb] at hL_66
       iterate 10 refine RD.skip rfl rfl ?_
       iterate 2 refine RD.q (.bool false) ?_
       refine RD.m rfl ?_
       refine RD.doneB [0, 1, 3, 3, 15, 31, 3, 3, 195, 451, 1023, 2047, 4095, 8191, 8191, 32767, 65535, 8191, 8191, 401407, 925695, 2097151, 4194303, 8388607, 16777215, 33554431] (by kernel_rfl) (by kernel_rfl) (by kernel_rfl) ?_
       refine WK.nil (QF.normal (hK71 _ ?_))
       refine WK.regx mixed ?_
       refine GX.m rfl ?_
       refine GX.pure (v' := .int .i64 ((i10 + 1 : Nat) : Int)) rfl rfl rfl rfl (congrArg (PVal.int .i64) (wrap_up hlt66 hlen_66)) ?_
       refine GX.m rfl ?_
       refine GX.done ?_
       refine WK.nil (QF.normal ?_)
       exact hagain_66 _ (k7.length - (i10 + 1)) ⟨[(0, .ro 10 (l0.map TCand.c)), (3, .ptr 0 0), (5, .ptr 1 0), (6, .ptr 2 0), (7, .own 3 10 0 k7.length), (8, .int .i64 (i8 : Int)), (9, .bool false), (10, .int .i64 ((i10 + 1) : Int))], [(0, .box (TPrefix.c p1)), (1, .box [.nils]), (2, .box [.nils]), (3, .row 10 28 (k7.map TCand.c))], 4⟩ (by omega) (Conv.keep [0, 1, 2, 3] [] [0, 3, 5, 6, 7, 8, 9, 10] rfl rfl (viewE_cons rfl rfl (viewE_cons rfl rfl (viewE_cons rfl rfl (viewE_cons rfl rfl (viewE_cons rfl rfl (viewE_cons rfl rfl (viewE_cons rfl rfl (viewE_cons rfl rfl viewE_nil)))))))) rfl rfl) ⟨i10 + 1, false, (by omega), rfl, hL_66, rfl⟩
     ·rw [hb72]; try simp only [hb72, bb] at hL_66
      iterate 22 refine RD.skip rfl rfl ?_
      refine RD.q (.bool true) ?_
      refine RD.m rfl ?_
      refine RD.doneB [0, 1, 3, 3, 15, 31, 3, 3, 195, 451, 1023, 2047, 4095, 8191, 8191, 32767, 65535, 8191, 8191, 401407, 925695, 2097151, 4194303, 8388607, 16777215, 33554431] (by kernel_rfl) (by kernel_rfl) (by kernel_rfl) ?_
      refine WK.nil (QF.normal (hK71 _ ?_))
      refine WK.regx mixed ?_
      refine GX.m rfl ?_
      refine GX.pure (v' := .int .i64 ((i10 + 1 : Nat) : Int)) rfl rfl rfl rfl (congrArg (PVal.int .i64) (wrap_up hlt66 hlen_66)) ?_
      refine GX.m rfl ?_
      refine GX.done ?_
      refine WK.nil (QF.normal ?_)
      exact hagain_66 _ (k7.length - (i10 + 1)) ⟨[(0, .ro 10 (l0.map TCand.c)), (3, .ptr 0 0), (5, .ptr 1 0), (6, .ptr 2 0), (7, .own 3 10 0 k7.length), (8, .int .i64 (i8 : Int)), (9, .bool true), (10, .int .i64 ((i10 + 1) : Int))], [(0, .box (TPrefix.c p1)), (1, .box [.nils]), (2, .box [.nils]), (3, .row 10 28 (k7.map TCand.c))], 4⟩ (by omega) (Conv.keep [0, 1, 2, 3] [] [0, 3, 5, 6, 7, 8, 9, 10] rfl rfl (viewE_cons rfl rfl (viewE_cons rfl rfl (viewE_cons rfl rfl (viewE_cons rfl rfl (viewE_cons rfl rfl (viewE_cons rfl rfl (viewE_cons rfl rfl (viewE_cons rfl rfl viewE_nil)))))))) rfl rfl) ⟨i10 + 1, true, (by omega), rfl, hL_66, rfl⟩
 ·rw [hb1]; first | replace hR := cond_t hb1 hR | (try simp only [hb1, bb] at hR)
  iterate 3 refine GX.skip rfl rfl ?_
  refine GX.q (.bool true) ?_
  refine GX.done ?_
  refine WK.condT rfl ?_
  refine WK.sr mixed ?_
  generalize hc29 : F7_crossroadslaw25_alive = c29 at hR
  rcases c29 with _ | c29
  ·try dsimp only at hR
   cases hR
  try dsimp only at hR
  try dsimp only at hR
  refine GX.callp (r := .bool c29) rfl rfl rfl (f7_ok  _ hc29) rfl rfl ?_
  refine GX.m rfl ?_
  refine GX.done ?_
  refine WK.ret ?_
  obtain rfl := Option.some.inj hR
  exact RetQ.fr [] (.inr rfl) rfl rfl rfl rfl

end Go.Proofs.Ytmfggjebbhdejaa.Abs
