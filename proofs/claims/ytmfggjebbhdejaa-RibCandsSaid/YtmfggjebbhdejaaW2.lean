/- The functions walked: each computes its Lean function (printed by this work's own program gen.py). -/
import Derived.Test.YtmfggjebbhdejaaSo
import Derived.Test.YtmfggjebbhdejaaW1
set_option linter.unusedVariables false
set_option linter.unusedSimpArgs false
set_option maxRecDepth 10000
set_option maxHeartbeats 4000000
namespace Go.Proofs.Ytmfggjebbhdejaa.Abs
open Go

theorem f3_ok (l0 : List TCand) (a1 : TCand) (b2 : TCand) (R : Bool) (hR : F3_crossroadslaw25_RibCands l0 a1 b2 = some R) : FnOk Try.prog 3 [.ro 10 (l0.map TCand.c), .agg (TCand.c a1), .agg (TCand.c b2)] [] 0 (.bool R) [] 0 := by
 refine FnOk.wk i3 rfl rfl ?_
 unfold F3_crossroadslaw25_RibCands at hR
 try dsimp only at hR
 change WK _ _ _ [ac3] _ ⟨[(0, .ro 10 (l0.map TCand.c)), (1, .agg (TCand.c a1)), (2, .agg (TCand.c b2))], [], 0⟩
 unfold ac3
 refine WK.sr mixed ?_
 refine GX.step (v' := .ptr 0 0) (heap' := [(0, .box (TCand.c a1))]) (next' := 1) rfl rfl rfl rfl rfl rfl rfl ?_
 refine GX.step (v' := .ptr 1 0) (heap' := [(0, .box (TCand.c a1)), (1, .box (TCand.c b2))]) (next' := 2) rfl rfl rfl rfl rfl rfl rfl ?_
 refine GX.m rfl ?_
 refine GX.done ?_
 refine WK.seq ?_
 refine WK.sr mixed ?_
 refine GX.m rfl ?_
 refine GX.pure (v' := .int .i64 (l0.length : Int)) rfl rfl rfl rfl (len_map _ _) ?_
 refine GX.q (.bool (decide (80 < (l0.length : Int)))) ?_
 refine GX.m rfl ?_
 rcases bool_two (decide (80 < (l0.length : Int))) with hb1 | hb1
 ·rw [hb1]; first | replace hR := cond_f hb1 hR | (try simp only [hb1, bb] at hR)
  refine GX.m rfl ?_
  generalize hc13 : F6_crossroadslaw25_short l0 = c13 at hR
  try dsimp only at hR
  refine GX.callp (r := .bool c13) rfl rfl rfl (f6_ok l0 _ hc13) rfl rfl ?_
  iterate 2 refine GX.q (.bool (!c13)) ?_
  refine GX.m rfl ?_
  rcases bool_two (c13) with hb2 | hb2
  ·rw [hb2]; first | replace hR := cond_f hb2 hR | (try simp only [hb2, bb] at hR)
   iterate 4 refine GX.skip rfl rfl ?_
   refine GX.q (.bool true) ?_
   refine GX.m rfl ?_
   iterate 4 refine GX.skip rfl rfl ?_
   refine GX.q (.bool true) ?_
   refine GX.done ?_
   refine WK.condT rfl ?_
   refine WK.sr mixed ?_
   generalize hc28 : F7_crossroadslaw25_alive = c28 at hR
   rcases c28 with _ | c28
   ·try dsimp only at hR
    cases hR
   try dsimp only at hR
   try dsimp only at hR
   refine GX.callp (r := .bool c28) rfl rfl rfl (f7_ok  _ hc28) rfl rfl ?_
   refine GX.m rfl ?_
   refine GX.done ?_
   refine WK.ret ?_
   obtain rfl := Option.some.inj hR
   exact RetQ.fr [] (.inr rfl) rfl rfl rfl rfl
  ·rw [hb2]; first | replace hR := cond_t hb2 hR | (try simp only [hb2, bb] at hR)
   refine GX.q (.ptr 0 9) ?_
   refine GX.q (.ro 2 (a1.Hops.map THop.c)) ?_
   refine GX.pure (v' := .int .i64 (a1.Hops.length : Int)) rfl rfl rfl rfl (len_map _ _) ?_
   iterate 2 refine GX.q (.bool (decide (20 < (a1.Hops.length : Int)))) ?_
   refine GX.m rfl ?_
   rcases bool_two (decide (20 < (a1.Hops.length : Int))) with hb3 | hb3
   ·rw [hb3]; first | replace hR := cond_f hb3 hR | (try simp only [hb3, bb] at hR)
    refine GX.q (.ptr 1 9) ?_
    refine GX.q (.ro 2 (b2.Hops.map THop.c)) ?_
    refine GX.pure (v' := .int .i64 (b2.Hops.length : Int)) rfl rfl rfl rfl (len_map _ _) ?_
    iterate 2 refine GX.q (.bool (decide (20 < (b2.Hops.length : Int)))) ?_
    refine GX.done ?_
    rcases bool_two (decide (20 < (b2.Hops.length : Int))) with hb4 | hb4
    ·rw [hb4]; first | replace hR := cond_f hb4 hR | (try simp only [hb4, bb] at hR)
     refine WK.condF rfl ?_
     refine WK.skip ?_
     refine WK.sr mixed ?_
     refine GX.m rfl ?_
     refine GX.q (.agg [.ro 10 (l0.map TCand.c)]) ?_
     refine GX.step (v' := .ptr 2 0) (heap' := [(0, .box (TCand.c a1)), (1, .box (TCand.c b2)), (2, .box [.nils])]) (next' := 3) rfl rfl rfl rfl rfl rfl rfl ?_
     refine GX.step0 (heap' := [(0, .box (TCand.c a1)), (1, .box (TCand.c b2)), (2, .box [.ro 10 (l0.map TCand.c)])]) (next' := 3) rfl rfl rfl rfl rfl ?_
     refine GX.done ?_
     refine WK.seq ?_
     refine WK.drawn mixed ?_
     generalize hc31 : F7_crossroadslaw25_alive = c31 at hR
     rcases c31 with _ | c31
     ·try dsimp only at hR
      cases hR
     try dsimp only at hR
     try dsimp only at hR
     refine RD.callp (r := .bool c31) rfl rfl rfl (f7_ok  _ hc31) rfl rfl ?_
     refine RD.m rfl ?_
     rcases bool_two (c31) with hb5 | hb5
     ·rw [hb5]; first | replace hR := cond_f hb5 hR | (try simp only [hb5, bb] at hR)
      iterate 6 refine RD.skip rfl rfl ?_
      refine RD.q (.bool false) ?_
      refine RD.m rfl ?_
      iterate 6 refine RD.skip rfl rfl ?_
      refine RD.q (.bool false) ?_
      refine RD.m rfl ?_
      iterate 9 refine RD.skip rfl rfl ?_
      refine RD.q (.bool false) ?_
      refine RD.m rfl ?_
      iterate 9 refine RD.skip rfl rfl ?_
      refine RD.q (.bool false) ?_
      refine RD.m rfl ?_
      refine RD.doneB [0, 1, 3, 7, 3, 31, 63, 127, 255, 511, 1023, 2047, 1023, 8191, 16383, 32767, 65535, 131071, 262143, 262143, 1048575, 262143, 4194303, 262143, 16777215, 33554431, 67108863, 134217727, 268435455, 536870911, 536870911, 2147483647, 536870911, 8589934591, 536870911, 34359738367, 68719476735, 137438953471, 274877906943, 549755813887] (by kernel_rfl) (by kernel_rfl) (by kernel_rfl) ?_
      refine WK.ret ?_
      obtain rfl := Option.some.inj hR
      exact RetQ.fr [] (.inr rfl) rfl rfl rfl rfl
     ·rw [hb5]; first | replace hR := cond_t hb5 hR | (try simp only [hb5, bb] at hR)
      refine RD.q (.agg (TCand.c a1)) ?_
      generalize hc34 : F8_rib_May a1 = c34 at hR
      try dsimp only at hR
      refine RD.callp (r := .bool c34) rfl rfl rfl (f8_ok a1 _ hc34) rfl rfl ?_
      refine RD.q (.agg (TCand.c a1)) ?_
      generalize hc36 : F10_crossroadslaw25_plain a1 = c36 at hR
      rcases c36 with _ | c36
      ·try dsimp only at hR
       cases hR
      try dsimp only at hR
      try dsimp only at hR
      refine RD.callp (r := .agg [.int .u32 c36.P.A, .int .i64 c36.P.N, .int .i64 c36.Proto, .int .i64 c36.Inst, .int .i64 c36.Dist, .int .i64 c36.Metric, .int .u32 c36.Tag, .bool c36.Leaked, .int .i64 c36.From, .ro 2 (c36.Hops.map THop.c)]) rfl rfl rfl (f10_ok a1 _ hc36) rfl rfl ?_
      generalize hc37 : F9_crossroadsref25_May c36 = c37 at hR
      try dsimp only at hR
      refine RD.callp (r := .bool c37) rfl rfl rfl (f9_ok c36 _ hc37) rfl rfl ?_
      iterate 2 refine RD.q (.bool (c34 == c37)) ?_
      refine RD.m rfl ?_
      rcases bool_two ((c34 == c37)) with hb6 | hb6
      ·rw [hb6]; try simp only [hb6, bb] at hR
       iterate 6 refine RD.skip rfl rfl ?_
       refine RD.q (.bool false) ?_
       refine RD.m rfl ?_
       iterate 9 refine RD.skip rfl rfl ?_
       refine RD.q (.bool false) ?_
       refine RD.m rfl ?_
       iterate 9 refine RD.skip rfl rfl ?_
       refine RD.q (.bool false) ?_
       refine RD.m rfl ?_
       refine RD.doneB [0, 1, 3, 7, 3, 31, 63, 127, 255, 511, 1023, 2047, 1023, 8191, 16383, 32767, 65535, 131071, 262143, 262143, 1048575, 262143, 4194303, 262143, 16777215, 33554431, 67108863, 134217727, 268435455, 536870911, 536870911, 2147483647, 536870911, 8589934591, 536870911, 34359738367, 68719476735, 137438953471, 274877906943, 549755813887] (by kernel_rfl) (by kernel_rfl) (by kernel_rfl) ?_
       refine WK.ret ?_
       obtain rfl := Option.some.inj hR
       exact RetQ.fr [] (.inr rfl) rfl rfl rfl rfl
      ·rw [hb6]; try simp only [hb6, bb] at hR
       refine RD.q (.agg [.ro 10 (l0.map TCand.c)]) ?_
       generalize hc42 : F11_rib_MayAll (⟨l0⟩ : TTable) = c42 at hR
       try dsimp only at hR
       refine RD.callp (r := .bool c42) rfl rfl rfl (f11_ok (⟨l0⟩ : TTable) _ hc42) rfl rfl ?_
       refine RD.q (.agg [.ro 10 (l0.map TCand.c)]) ?_
       generalize hc44 : F13_crossroadslaw25_table (⟨l0⟩ : TTable) = c44 at hR
       rcases c44 with _ | c44
       ·try dsimp only at hR
        cases hR
       try dsimp only at hR
       try dsimp only at hR
       refine RD.callp (r := .agg [.ro 10 (c44.L.map TCand.c)]) rfl rfl rfl (f13_ok (⟨l0⟩ : TTable) _ hc44) rfl rfl ?_
       generalize hc45 : F12_crossroadsref25_MayAll c44 = c45 at hR
       try dsimp only at hR
       refine RD.callp (r := .bool c45) rfl rfl rfl (f12_ok c44 _ hc45) rfl rfl ?_
       iterate 2 refine RD.q (.bool (c42 == c45)) ?_
       refine RD.m rfl ?_
       rcases bool_two ((c42 == c45)) with hb7 | hb7
       ·rw [hb7]; try simp only [hb7, bb] at hR
        iterate 9 refine RD.skip rfl rfl ?_
        refine RD.q (.bool false) ?_
        refine RD.m rfl ?_
        iterate 9 refine RD.skip rfl rfl ?_
        refine RD.q (.bool false) ?_
        refine RD.m rfl ?_
        refine RD.doneB [0, 1, 3, 7, 3, 31, 63, 127, 255, 511, 1023, 2047, 1023, 8191, 16383, 32767, 65535, 131071, 262143, 262143, 1048575, 262143, 4194303, 262143, 16777215, 33554431, 67108863, 134217727, 268435455, 536870911, 536870911, 2147483647, 536870911, 8589934591, 536870911, 34359738367, 68719476735, 137438953471, 274877906943, 549755813887] (by kernel_rfl) (by kernel_rfl) (by kernel_rfl) ?_
        refine WK.ret ?_
        obtain rfl := Option.some.inj hR
        exact RetQ.fr [] (.inr rfl) rfl rfl rfl rfl
       ·rw [hb7]; try simp only [hb7, bb] at hR
        refine RD.q (.agg (TCand.c a1)) ?_
        refine RD.q (.agg (TCand.c b2)) ?_
        generalize hc51 : F14_rib_Less a1 b2 = c51 at hR
        try dsimp only at hR
        refine RD.callp (r := .bool c51) rfl rfl rfl (f14_ok a1 b2 _ hc51) rfl rfl ?_
        refine RD.q (.agg (TCand.c a1)) ?_
        refine RD.callp (r := .agg [.int .u32 c36.P.A, .int .i64 c36.P.N, .int .i64 c36.Proto, .int .i64 c36.Inst, .int .i64 c36.Dist, .int .i64 c36.Metric, .int .u32 c36.Tag, .bool c36.Leaked, .int .i64 c36.From, .ro 2 (c36.Hops.map THop.c)]) rfl rfl rfl (f10_ok a1 _ hc36) rfl rfl ?_
        refine RD.q (.agg (TCand.c b2)) ?_
        generalize hc55 : F10_crossroadslaw25_plain b2 = c55 at hR
        rcases c55 with _ | c55
        ·try dsimp only at hR
         cases hR
        try dsimp only at hR
        try dsimp only at hR
        refine RD.callp (r := .agg [.int .u32 c55.P.A, .int .i64 c55.P.N, .int .i64 c55.Proto, .int .i64 c55.Inst, .int .i64 c55.Dist, .int .i64 c55.Metric, .int .u32 c55.Tag, .bool c55.Leaked, .int .i64 c55.From, .ro 2 (c55.Hops.map THop.c)]) rfl rfl rfl (f10_ok b2 _ hc55) rfl rfl ?_
        generalize hc56 : F15_crossroadsref25_Less c36 c55 = c56 at hR
        try dsimp only at hR
        refine RD.callp (r := .bool c56) rfl rfl rfl (f15_ok c36 c55 _ hc56) rfl rfl ?_
        iterate 2 refine RD.q (.bool (c51 == c56)) ?_
        refine RD.m rfl ?_
        rcases bool_two ((c51 == c56)) with hb8 | hb8
        ·rw [hb8]; try simp only [hb8, bb] at hR
         iterate 9 refine RD.skip rfl rfl ?_
         refine RD.q (.bool false) ?_
         refine RD.m rfl ?_
         refine RD.doneB [0, 1, 3, 7, 3, 31, 63, 127, 255, 511, 1023, 2047, 1023, 8191, 16383, 32767, 65535, 131071, 262143, 262143, 1048575, 262143, 4194303, 262143, 16777215, 33554431, 67108863, 134217727, 268435455, 536870911, 536870911, 2147483647, 536870911, 8589934591, 536870911, 34359738367, 68719476735, 137438953471, 274877906943, 549755813887] (by kernel_rfl) (by kernel_rfl) (by kernel_rfl) ?_
         refine WK.ret ?_
         obtain rfl := Option.some.inj hR
         exact RetQ.fr [] (.inr rfl) rfl rfl rfl rfl
        ·rw [hb8]; try simp only [hb8, bb] at hR
         refine RD.q (.agg (TCand.c a1)) ?_
         refine RD.q (.agg (TCand.c b2)) ?_
         generalize hc62 : F16_rib_Better a1 b2 = c62 at hR
         try dsimp only at hR
         refine RD.callp (r := .bool c62) rfl rfl rfl (f16_ok a1 b2 _ hc62) rfl rfl ?_
         refine RD.q (.agg (TCand.c a1)) ?_
         refine RD.callp (r := .agg [.int .u32 c36.P.A, .int .i64 c36.P.N, .int .i64 c36.Proto, .int .i64 c36.Inst, .int .i64 c36.Dist, .int .i64 c36.Metric, .int .u32 c36.Tag, .bool c36.Leaked, .int .i64 c36.From, .ro 2 (c36.Hops.map THop.c)]) rfl rfl rfl (f10_ok a1 _ hc36) rfl rfl ?_
         refine RD.q (.agg (TCand.c b2)) ?_
         refine RD.callp (r := .agg [.int .u32 c55.P.A, .int .i64 c55.P.N, .int .i64 c55.Proto, .int .i64 c55.Inst, .int .i64 c55.Dist, .int .i64 c55.Metric, .int .u32 c55.Tag, .bool c55.Leaked, .int .i64 c55.From, .ro 2 (c55.Hops.map THop.c)]) rfl rfl rfl (f10_ok b2 _ hc55) rfl rfl ?_
         generalize hc67 : F17_crossroadsref25_Better c36 c55 = c67 at hR
         try dsimp only at hR
         refine RD.callp (r := .bool c67) rfl rfl rfl (f17_ok c36 c55 _ hc67) rfl rfl ?_
         iterate 2 refine RD.q (.bool (c62 == c67)) ?_
         refine RD.m rfl ?_
         refine RD.doneB [0, 1, 3, 7, 3, 31, 63, 127, 255, 511, 1023, 2047, 1023, 8191, 16383, 32767, 65535, 131071, 262143, 262143, 1048575, 262143, 4194303, 262143, 16777215, 33554431, 67108863, 134217727, 268435455, 536870911, 536870911, 2147483647, 536870911, 8589934591, 536870911, 34359738367, 68719476735, 137438953471, 274877906943, 549755813887] (by kernel_rfl) (by kernel_rfl) (by kernel_rfl) ?_
         refine WK.ret ?_
         obtain rfl := Option.some.inj hR
         exact RetQ.fr [] (.inr rfl) rfl rfl rfl rfl
    ·rw [hb4]; first | replace hR := cond_t hb4 hR | (try simp only [hb4, bb] at hR)
     refine WK.condT rfl ?_
     refine WK.sr mixed ?_
     generalize hc28 : F7_crossroadslaw25_alive = c28 at hR
     rcases c28 with _ | c28
     ·try dsimp only at hR
      cases hR
     try dsimp only at hR
     try dsimp only at hR
     refine GX.callp (r := .bool c28) rfl rfl rfl (f7_ok  _ hc28) rfl rfl ?_
     refine GX.m rfl ?_
     refine GX.done ?_
     refine WK.ret ?_
     obtain rfl := Option.some.inj hR
     exact RetQ.fr [] (.inr rfl) rfl rfl rfl rfl
   ·rw [hb3]; first | replace hR := cond_t hb3 hR | (try simp only [hb3, bb] at hR)
    iterate 4 refine GX.skip rfl rfl ?_
    refine GX.q (.bool true) ?_
    refine GX.done ?_
    refine WK.condT rfl ?_
    refine WK.sr mixed ?_
    generalize hc28 : F7_crossroadslaw25_alive = c28 at hR
    rcases c28 with _ | c28
    ·try dsimp only at hR
     cases hR
    try dsimp only at hR
    try dsimp only at hR
    refine GX.callp (r := .bool c28) rfl rfl rfl (f7_ok  _ hc28) rfl rfl ?_
    refine GX.m rfl ?_
    refine GX.done ?_
    refine WK.ret ?_
    obtain rfl := Option.some.inj hR
    exact RetQ.fr [] (.inr rfl) rfl rfl rfl rfl
 ·rw [hb1]; first | replace hR := cond_t hb1 hR | (try simp only [hb1, bb] at hR)
  iterate 3 refine GX.skip rfl rfl ?_
  refine GX.q (.bool true) ?_
  refine GX.m rfl ?_
  iterate 4 refine GX.skip rfl rfl ?_
  refine GX.q (.bool true) ?_
  refine GX.m rfl ?_
  iterate 4 refine GX.skip rfl rfl ?_
  refine GX.q (.bool true) ?_
  refine GX.done ?_
  refine WK.condT rfl ?_
  refine WK.sr mixed ?_
  generalize hc28 : F7_crossroadslaw25_alive = c28 at hR
  rcases c28 with _ | c28
  ·try dsimp only at hR
   cases hR
  try dsimp only at hR
  try dsimp only at hR
  refine GX.callp (r := .bool c28) rfl rfl rfl (f7_ok  _ hc28) rfl rfl ?_
  refine GX.m rfl ?_
  refine GX.done ?_
  refine WK.ret ?_
  obtain rfl := Option.some.inj hR
  exact RetQ.fr [] (.inr rfl) rfl rfl rfl rfl

end Go.Proofs.Ytmfggjebbhdejaa.Abs
