/- The functions walked: each computes its Lean function (printed by this work's own program gen.py). -/
import Derived.Test.YtjcpkgnlnmajjaaGreatDoorSb
import Derived.Test.YtjcpkgnlnmajjaaGreatDoorW1
set_option linter.unusedVariables false
set_option linter.unusedSimpArgs false
set_option maxRecDepth 10000
set_option maxHeartbeats 4000000
namespace Go.Proofs.YtjcpkgnlnmajjaaGreatDoor.Abs
open Go

theorem f6_ok (l0 : List TRule) (x1 : TRule) (q2 : TPrefix) (R : Bool) (hR : F6_crossroadslaw07_PlistBack l0 x1 q2 = some R) : FnOk Tryz.prog 6 [.ro 6 (l0.map TRule.c), .agg (TRule.c x1), .agg (TPrefix.c q2)] [] 0 (.bool R) [] 0 := by
 refine FnOk.wk i6 rfl rfl ?_
 unfold F6_crossroadslaw07_PlistBack at hR
 try dsimp only at hR
 change WK _ _ _ [ac6] _ ⟨[(0, .ro 6 (l0.map TRule.c)), (1, .agg (TRule.c x1)), (2, .agg (TPrefix.c q2))], [], 0⟩
 unfold ac6
 refine WK.sr mixed ?_
 refine GX.step (v' := .ptr 0 0) (heap' := [(0, .box (TRule.c x1))]) (next' := 1) rfl rfl rfl rfl rfl rfl rfl ?_
 refine GX.step (v' := .ptr 1 0) (heap' := [(0, .box (TRule.c x1)), (1, .box (TPrefix.c q2))]) (next' := 2) rfl rfl rfl rfl rfl rfl rfl ?_
 refine GX.m rfl ?_
 refine GX.done ?_
 refine WK.seq ?_
 refine WK.sr mixed ?_
 refine GX.m rfl ?_
 refine GX.pure (v' := .int .i64 (l0.length : Int)) rfl rfl rfl rfl (len_map _ _) ?_
 refine GX.q (.bool (decide (150 < (l0.length : Int)))) ?_
 refine GX.m rfl ?_
 rcases bool_two (decide (150 < (l0.length : Int))) with hb1 | hb1
 ·rw [hb1]; first | replace hR := cond_f hb1 hR | (try simp only [hb1, bb] at hR)
  refine GX.m rfl ?_
  generalize hc22 : F19_crossroadslaw07_rows l0 = c22 at hR
  rcases c22 with _ | c22
  ·try dsimp only at hR
   cases hR
  try dsimp only at hR
  try dsimp only at hR
  refine GX.callp (r := .ro 6 (c22.map TRule.c)) rfl rfl rfl (f19_ok l0 _ hc22) rfl rfl ?_
  generalize hc23 : F18_crossroadsref07_MayAll c22 = c23 at hR
  try dsimp only at hR
  refine GX.callp (r := .bool c23) rfl rfl rfl (f18_ok c22 _ hc23) rfl rfl ?_
  iterate 2 refine GX.q (.bool (!c23)) ?_
  refine GX.done ?_
  rcases bool_two (c23) with hb2 | hb2
  ·rw [hb2]; first | replace hR := cond_f hb2 hR | (try simp only [hb2, bb] at hR)
   refine WK.condT rfl ?_
   refine WK.sr mixed ?_
   generalize hc26 : F11_crossroadslaw07_alive = c26 at hR
   rcases c26 with _ | c26
   ·try dsimp only at hR
    cases hR
   try dsimp only at hR
   try dsimp only at hR
   refine GX.callp (r := .bool c26) rfl rfl rfl (f11_ok  _ hc26) rfl rfl ?_
   refine GX.m rfl ?_
   refine GX.done ?_
   refine WK.ret ?_
   obtain rfl := Option.some.inj hR
   exact RetQ.fr [] (.inr rfl) rfl rfl rfl rfl
  ·rw [hb2]; first | replace hR := cond_t hb2 hR | (try simp only [hb2, bb] at hR)
   refine WK.condF rfl ?_
   refine WK.skip ?_
   refine WK.sr mixed ?_
   refine GX.m rfl ?_
   refine GX.q (.agg (TRule.c x1)) ?_
   generalize hc30 : F23_plist_Add l0 x1 = c30 at hR
   rcases c30 with _ | c30
   ·try dsimp only at hR
    cases hR
   try dsimp only at hR
   obtain ⟨c30a, c30b⟩ := c30; try dsimp only at hR
   refine GX.callp (r := .tup [.ro 6 (c30a.map TRule.c), .int .i64 c30b]) rfl rfl rfl (f23_ok l0 x1 _ hc30) rfl rfl ?_
   refine GX.m rfl ?_
   refine GX.q (.ro 6 (c30a.map TRule.c)) ?_
   refine GX.q (.int .i64 c30b) ?_
   iterate 2 refine GX.m rfl ?_
   refine GX.done ?_
   refine WK.seq ?_
   refine WK.sr mixed ?_
   refine GX.m rfl ?_
   refine GX.q (.bool (decide (c30b = 0))) ?_
   refine GX.done ?_
   rcases bool_two (decide (c30b = 0)) with hb3 | hb3
   ·rw [hb3]; first | replace hR := cond_f hb3 hR | (try simp only [hb3, bb] at hR)
    refine WK.condF rfl ?_
    refine WK.skip ?_
    refine WK.sr mixed ?_
    refine GX.m rfl ?_
    refine GX.q (.agg [.int .i64 65535, .bool true, .int .u32 0, .int .i64 0, .int .i64 0, .int .i64 32]) ?_
    generalize hc63 : F23_plist_Add l0 (⟨65535, true, (⟨0, 0⟩ : TPrefix), 0, 32⟩ : TRule) = c63 at hR
    rcases c63 with _ | c63
    ·try dsimp only at hR
     cases hR
    try dsimp only at hR
    obtain ⟨c63a, c63b⟩ := c63; try dsimp only at hR
    refine GX.callp (r := .tup [.ro 6 (c63a.map TRule.c), .int .i64 c63b]) rfl rfl rfl (f23_ok l0 (⟨65535, true, (⟨0, 0⟩ : TPrefix), 0, 32⟩ : TRule) _ hc63) rfl rfl ?_
    refine GX.m rfl ?_
    refine GX.q (.ro 6 (c63a.map TRule.c)) ?_
    refine GX.q (.int .i64 c63b) ?_
    iterate 2 refine GX.m rfl ?_
    refine GX.done ?_
    refine WK.sr mixed ?_
    refine GX.m rfl ?_
    refine GX.q (.agg (TPrefix.c q2)) ?_
    generalize hc69 : F22_plist_Eval l0 q2 = c69 at hR
    rcases c69 with _ | c69
    ·try dsimp only at hR
     cases hR
    try dsimp only at hR
    obtain ⟨c69a, c69b⟩ := c69; try dsimp only at hR
    refine GX.callp (r := .tup [.bool c69a, .int .i64 c69b]) rfl rfl rfl (f22_ok l0 q2 _ hc69) rfl rfl ?_
    refine GX.m rfl ?_
    refine GX.q (.bool c69a) ?_
    refine GX.q (.int .i64 c69b) ?_
    iterate 2 refine GX.m rfl ?_
    refine GX.done ?_
    refine WK.sr mixed ?_
    refine GX.m rfl ?_
    refine GX.q (.agg (TPrefix.c q2)) ?_
    generalize hc75 : F22_plist_Eval c63a q2 = c75 at hR
    rcases c75 with _ | c75
    ·try dsimp only at hR
     cases hR
    try dsimp only at hR
    obtain ⟨c75a, c75b⟩ := c75; try dsimp only at hR
    refine GX.callp (r := .tup [.bool c75a, .int .i64 c75b]) rfl rfl rfl (f22_ok c63a q2 _ hc75) rfl rfl ?_
    refine GX.m rfl ?_
    refine GX.q (.bool c75a) ?_
    refine GX.q (.int .i64 c75b) ?_
    iterate 2 refine GX.m rfl ?_
    refine GX.done ?_
    refine WK.seq ?_
    refine WK.sr mixed ?_
    refine GX.m rfl ?_
    refine GX.q (.bool (!decide (c63b = 0))) ?_
    refine GX.m rfl ?_
    rcases bool_two (decide (c63b = 0)) with hb4 | hb4
    ·rw [hb4]; first | replace hR := cond_f hb4 hR | (try simp only [hb4, bb] at hR)
     iterate 3 refine GX.skip rfl rfl ?_
     refine GX.q (.bool true) ?_
     refine GX.m rfl ?_
     iterate 3 refine GX.skip rfl rfl ?_
     refine GX.q (.bool true) ?_
     refine GX.m rfl ?_
     iterate 4 refine GX.skip rfl rfl ?_
     refine GX.q (.bool true) ?_
     refine GX.done ?_
     refine WK.condT rfl ?_
     refine WK.sr mixed ?_
     generalize hc96 : F11_crossroadslaw07_alive = c96 at hR
     rcases c96 with _ | c96
     ·try dsimp only at hR
      cases hR
     try dsimp only at hR
     try dsimp only at hR
     refine GX.callp (r := .bool c96) rfl rfl rfl (f11_ok  _ hc96) rfl rfl ?_
     refine GX.m rfl ?_
     refine GX.done ?_
     refine WK.ret ?_
     obtain rfl := Option.some.inj hR
     exact RetQ.fr [] (.inr rfl) rfl rfl rfl rfl
    ·rw [hb4]; first | replace hR := cond_t hb4 hR | (try simp only [hb4, bb] at hR)
     refine GX.q (.ptr 1 1) ?_
     refine GX.q (.int .i64 q2.N) ?_
     iterate 2 refine GX.q (.bool (decide (q2.N < 0))) ?_
     refine GX.m rfl ?_
     rcases bool_two (decide (q2.N < 0)) with hb5 | hb5
     ·rw [hb5]; first | replace hR := cond_f hb5 hR | (try simp only [hb5, bb] at hR)
      refine GX.q (.ptr 1 1) ?_
      refine GX.q (.int .i64 q2.N) ?_
      iterate 2 refine GX.q (.bool (decide (32 < q2.N))) ?_
      refine GX.m rfl ?_
      rcases bool_two (decide (32 < q2.N)) with hb6 | hb6
      ·rw [hb6]; first | replace hR := cond_f hb6 hR | (try simp only [hb6, bb] at hR)
       refine GX.q (.agg [.int .i64 1, .bool false, .int .u32 0, .int .i64 0, .int .i64 0, .int .i64 32]) ?_
       refine GX.q (.agg (TPrefix.c q2)) ?_
       generalize hc93 : F14_plist_Means (⟨1, false, (⟨0, 0⟩ : TPrefix), 0, 32⟩ : TRule) q2 = c93 at hR
       try dsimp only at hR
       refine GX.callp (r := .bool c93) rfl rfl rfl (f14_ok (⟨1, false, (⟨0, 0⟩ : TPrefix), 0, 32⟩ : TRule) q2 _ hc93) rfl rfl ?_
       iterate 2 refine GX.q (.bool (!c93)) ?_
       refine GX.done ?_
       rcases bool_two (c93) with hb7 | hb7
       ·rw [hb7]; first | replace hR := cond_f hb7 hR | (try simp only [hb7, bb] at hR)
        refine WK.condT rfl ?_
        refine WK.sr mixed ?_
        generalize hc96 : F11_crossroadslaw07_alive = c96 at hR
        rcases c96 with _ | c96
        ·try dsimp only at hR
         cases hR
        try dsimp only at hR
        try dsimp only at hR
        refine GX.callp (r := .bool c96) rfl rfl rfl (f11_ok  _ hc96) rfl rfl ?_
        refine GX.m rfl ?_
        refine GX.done ?_
        refine WK.ret ?_
        obtain rfl := Option.some.inj hR
        exact RetQ.fr [] (.inr rfl) rfl rfl rfl rfl
       ·rw [hb7]; first | replace hR := cond_t hb7 hR | (try simp only [hb7, bb] at hR)
        refine WK.condF rfl ?_
        refine WK.skip ?_
        refine WK.sr mixed ?_
        generalize hc97 : F11_crossroadslaw07_alive = c97 at hR
        rcases c97 with _ | c97
        ·try dsimp only at hR
         cases hR
        try dsimp only at hR
        try dsimp only at hR
        refine GX.callp (r := .bool c97) rfl rfl rfl (f11_ok  _ hc97) rfl rfl ?_
        refine GX.m rfl ?_
        rcases bool_two (c97) with hb8 | hb8
        ·rw [hb8]; first | replace hR := cond_f hb8 hR | (try simp only [hb8, bb] at hR)
         iterate 23 refine GX.skip rfl rfl ?_
         refine GX.q (.bool false) ?_
         refine GX.m rfl ?_
         refine GX.done ?_
         refine WK.ret ?_
         obtain rfl := Option.some.inj hR
         exact RetQ.fr [] (.inr rfl) rfl rfl rfl rfl
        ·rw [hb8]; first | replace hR := cond_t hb8 hR | (try simp only [hb8, bb] at hR)
         refine GX.m rfl ?_
         refine GX.q (.bool (!decide (c69b = 0))) ?_
         refine GX.m rfl ?_
         rcases bool_two (decide (c69b = 0)) with hb9 | hb9
         ·rw [hb9]; first | replace hR := cond_f hb9 hR | (try simp only [hb9, bb] at hR)
          iterate 2 refine GX.m rfl ?_
          iterate 2 refine GX.q (.bool (c75a == c69a)) ?_
          refine GX.m rfl ?_
          rcases bool_two ((c75a == c69a)) with hb10 | hb10
          ·rw [hb10]; try simp only [hb10, bb] at hR
           iterate 3 refine GX.skip rfl rfl ?_
           refine GX.q (.bool false) ?_
           iterate 2 refine GX.m rfl ?_
           refine GX.q (.bool (decide (c69b = 0))) ?_
           refine GX.m rfl ?_
           rw [hb9]
           refine GX.skip rfl rfl ?_
           refine GX.q (.bool false) ?_
           refine GX.m rfl ?_
           iterate 2 refine GX.skip rfl rfl ?_
           iterate 3 refine GX.q (.bool false) ?_
           refine GX.m rfl ?_
           refine GX.done ?_
           refine WK.ret ?_
           obtain rfl := Option.some.inj hR
           exact RetQ.fr [] (.inr rfl) rfl rfl rfl rfl
          ·rw [hb10]; try simp only [hb10, bb] at hR
           iterate 2 refine GX.m rfl ?_
           iterate 2 refine GX.q (.bool (decide (c75b = c69b))) ?_
           refine GX.m rfl ?_
           rcases bool_two (decide (c75b = c69b)) with hb11 | hb11
           ·rw [hb11]; first | replace hR := cond_f hb11 hR | (try simp only [hb11, bb] at hR)
            refine GX.m rfl ?_
            refine GX.q (.bool (decide (c69b = 0))) ?_
            refine GX.m rfl ?_
            rw [hb9]
            refine GX.skip rfl rfl ?_
            refine GX.q (.bool false) ?_
            refine GX.m rfl ?_
            iterate 2 refine GX.skip rfl rfl ?_
            iterate 3 refine GX.q (.bool false) ?_
            refine GX.m rfl ?_
            refine GX.done ?_
            refine WK.ret ?_
            obtain rfl := Option.some.inj hR
            exact RetQ.fr [] (.inr rfl) rfl rfl rfl rfl
           ·rw [hb11]; first | replace hR := cond_t hb11 hR | (try simp only [hb11, bb] at hR)
            iterate 9 refine GX.skip rfl rfl ?_
            iterate 2 refine GX.q (.bool true) ?_
            refine GX.m rfl ?_
            refine GX.done ?_
            refine WK.ret ?_
            obtain rfl := Option.some.inj hR
            exact RetQ.fr [] (.inr rfl) rfl rfl rfl rfl
         ·rw [hb9]; first | replace hR := cond_t hb9 hR | (try simp only [hb9, bb] at hR)
          iterate 3 refine GX.skip rfl rfl ?_
          refine GX.q (.bool false) ?_
          refine GX.m rfl ?_
          iterate 3 refine GX.skip rfl rfl ?_
          refine GX.q (.bool false) ?_
          iterate 2 refine GX.m rfl ?_
          refine GX.q (.bool (decide (c69b = 0))) ?_
          refine GX.m rfl ?_
          rw [hb9]
          refine GX.m rfl ?_
          refine GX.q (.bool c75a) ?_
          refine GX.m rfl ?_
          rcases bool_two (c75a) with hb12 | hb12
          ·rw [hb12]; first | replace hR := cond_f hb12 hR | (try simp only [hb12, bb] at hR)
           iterate 2 refine GX.skip rfl rfl ?_
           iterate 3 refine GX.q (.bool false) ?_
           refine GX.m rfl ?_
           refine GX.done ?_
           refine WK.ret ?_
           obtain rfl := Option.some.inj hR
           exact RetQ.fr [] (.inr rfl) rfl rfl rfl rfl
          ·rw [hb12]; first | replace hR := cond_t hb12 hR | (try simp only [hb12, bb] at hR)
           refine GX.m rfl ?_
           iterate 4 refine GX.q (.bool (decide (c75b = 65535))) ?_
           refine GX.m rfl ?_
           refine GX.done ?_
           refine WK.ret ?_
           obtain rfl := Option.some.inj hR
           exact RetQ.fr [] (.inr rfl) rfl rfl rfl rfl
      ·rw [hb6]; first | replace hR := cond_t hb6 hR | (try simp only [hb6, bb] at hR)
       iterate 4 refine GX.skip rfl rfl ?_
       refine GX.q (.bool true) ?_
       refine GX.done ?_
       refine WK.condT rfl ?_
       refine WK.sr mixed ?_
       generalize hc96 : F11_crossroadslaw07_alive = c96 at hR
       rcases c96 with _ | c96
       ·try dsimp only at hR
        cases hR
       try dsimp only at hR
       try dsimp only at hR
       refine GX.callp (r := .bool c96) rfl rfl rfl (f11_ok  _ hc96) rfl rfl ?_
       refine GX.m rfl ?_
       refine GX.done ?_
       refine WK.ret ?_
       obtain rfl := Option.some.inj hR
       exact RetQ.fr [] (.inr rfl) rfl rfl rfl rfl
     ·rw [hb5]; first | replace hR := cond_t hb5 hR | (try simp only [hb5, bb] at hR)
      iterate 3 refine GX.skip rfl rfl ?_
      refine GX.q (.bool true) ?_
      refine GX.m rfl ?_
      iterate 4 refine GX.skip rfl rfl ?_
      refine GX.q (.bool true) ?_
      refine GX.done ?_
      refine WK.condT rfl ?_
      refine WK.sr mixed ?_
      generalize hc96 : F11_crossroadslaw07_alive = c96 at hR
      rcases c96 with _ | c96
      ·try dsimp only at hR
       cases hR
      try dsimp only at hR
      try dsimp only at hR
      refine GX.callp (r := .bool c96) rfl rfl rfl (f11_ok  _ hc96) rfl rfl ?_
      refine GX.m rfl ?_
      refine GX.done ?_
      refine WK.ret ?_
      obtain rfl := Option.some.inj hR
      exact RetQ.fr [] (.inr rfl) rfl rfl rfl rfl
   ·rw [hb3]; first | replace hR := cond_t hb3 hR | (try simp only [hb3, bb] at hR)
    refine WK.condT rfl ?_
    refine WK.sr mixed ?_
    refine GX.m rfl ?_
    refine GX.q (.ptr 0 0) ?_
    refine GX.q (.int .i64 x1.Seq) ?_
    generalize hc39 : F21_plist_Drop c30a x1.Seq = c39 at hR
    rcases c39 with _ | c39
    ·try dsimp only at hR
     cases hR
    try dsimp only at hR
    obtain ⟨c39a, c39b⟩ := c39; try dsimp only at hR
    refine GX.callp (r := .tup [.ro 6 (c39a.map TRule.c), .int .i64 c39b]) rfl rfl rfl (f21_ok c30a x1.Seq _ hc39) rfl rfl ?_
    refine GX.m rfl ?_
    refine GX.q (.ro 6 (c39a.map TRule.c)) ?_
    refine GX.q (.int .i64 c39b) ?_
    iterate 2 refine GX.m rfl ?_
    refine GX.done ?_
    refine WK.sr mixed ?_
    refine GX.m rfl ?_
    refine GX.q (.bool (!decide (c39b = 0))) ?_
    refine GX.m rfl ?_
    rcases bool_two (decide (c39b = 0)) with hb13 | hb13
    ·rw [hb13]; first | replace hR := cond_f hb13 hR | (try simp only [hb13, bb] at hR)
     iterate 6 refine GX.skip rfl rfl ?_
     refine GX.q (.bool true) ?_
     refine GX.m rfl ?_
     iterate 6 refine GX.skip rfl rfl ?_
     refine GX.q (.bool true) ?_
     refine GX.done ?_
     refine WK.condT rfl ?_
     refine WK.sr mixed ?_
     refine GX.m rfl ?_
     refine GX.done ?_
     refine WK.ret ?_
     obtain rfl := Option.some.inj hR
     exact RetQ.fr [] (.inr rfl) rfl rfl rfl rfl
    ·rw [hb13]; first | replace hR := cond_t hb13 hR | (try simp only [hb13, bb] at hR)
     refine GX.m rfl ?_
     refine GX.pure (v' := .int .i64 (c30a.length : Int)) rfl rfl rfl rfl (len_map _ _) ?_
     refine GX.m rfl ?_
     refine GX.pure (v' := .int .i64 (l0.length : Int)) rfl rfl rfl rfl (len_map _ _) ?_
     refine GX.q (.int .i64 (IntKind.i64.wrap ((l0.length : Int) + 1))) ?_
     iterate 2 refine GX.q (.bool (!decide ((c30a.length : Int) = IntKind.i64.wrap ((l0.length : Int) + 1)))) ?_
     refine GX.m rfl ?_
     rcases bool_two (decide ((c30a.length : Int) = IntKind.i64.wrap ((l0.length : Int) + 1))) with hb14 | hb14
     ·rw [hb14]; first | replace hR := cond_f hb14 hR | (try simp only [hb14, bb] at hR)
      iterate 6 refine GX.skip rfl rfl ?_
      refine GX.q (.bool true) ?_
      refine GX.done ?_
      refine WK.condT rfl ?_
      refine WK.sr mixed ?_
      refine GX.m rfl ?_
      refine GX.done ?_
      refine WK.ret ?_
      obtain rfl := Option.some.inj hR
      exact RetQ.fr [] (.inr rfl) rfl rfl rfl rfl
     ·rw [hb14]; first | replace hR := cond_t hb14 hR | (try simp only [hb14, bb] at hR)
      refine GX.m rfl ?_
      generalize hc54 : F19_crossroadslaw07_rows c39a = c54 at hR
      rcases c54 with _ | c54
      ·try dsimp only at hR
       cases hR
      try dsimp only at hR
      try dsimp only at hR
      refine GX.callp (r := .ro 6 (c54.map TRule.c)) rfl rfl rfl (f19_ok c39a _ hc54) rfl rfl ?_
      refine GX.m rfl ?_
      refine GX.callp (r := .ro 6 (c22.map TRule.c)) rfl rfl rfl (f19_ok l0 _ hc22) rfl rfl ?_
      generalize hc57 : F24_crossroadsref07_Same c54 c22 = c57 at hR
      try dsimp only at hR
      refine GX.callp (r := .bool c57) rfl rfl rfl (f24_ok c54 c22 _ hc57) rfl rfl ?_
      iterate 2 refine GX.q (.bool (!c57)) ?_
      refine GX.done ?_
      rcases bool_two (c57) with hb15 | hb15
      ·rw [hb15]; first | replace hR := cond_f hb15 hR | (try simp only [hb15, bb] at hR)
       refine WK.condT rfl ?_
       refine WK.sr mixed ?_
       refine GX.m rfl ?_
       refine GX.done ?_
       refine WK.ret ?_
       obtain rfl := Option.some.inj hR
       exact RetQ.fr [] (.inr rfl) rfl rfl rfl rfl
      ·rw [hb15]; first | replace hR := cond_t hb15 hR | (try simp only [hb15, bb] at hR)
       refine WK.condF rfl ?_
       refine WK.skip ?_
       refine WK.sr mixed ?_
       refine GX.m rfl ?_
       refine GX.q (.agg [.int .i64 65535, .bool true, .int .u32 0, .int .i64 0, .int .i64 0, .int .i64 32]) ?_
       generalize hc63 : F23_plist_Add l0 (⟨65535, true, (⟨0, 0⟩ : TPrefix), 0, 32⟩ : TRule) = c63 at hR
       rcases c63 with _ | c63
       ·try dsimp only at hR
        cases hR
       try dsimp only at hR
       obtain ⟨c63a, c63b⟩ := c63; try dsimp only at hR
       refine GX.callp (r := .tup [.ro 6 (c63a.map TRule.c), .int .i64 c63b]) rfl rfl rfl (f23_ok l0 (⟨65535, true, (⟨0, 0⟩ : TPrefix), 0, 32⟩ : TRule) _ hc63) rfl rfl ?_
       refine GX.m rfl ?_
       refine GX.q (.ro 6 (c63a.map TRule.c)) ?_
       refine GX.q (.int .i64 c63b) ?_
       iterate 2 refine GX.m rfl ?_
       refine GX.done ?_
       refine WK.sr mixed ?_
       refine GX.m rfl ?_
       refine GX.q (.agg (TPrefix.c q2)) ?_
       generalize hc69 : F22_plist_Eval l0 q2 = c69 at hR
       rcases c69 with _ | c69
       ·try dsimp only at hR
        cases hR
       try dsimp only at hR
       obtain ⟨c69a, c69b⟩ := c69; try dsimp only at hR
       refine GX.callp (r := .tup [.bool c69a, .int .i64 c69b]) rfl rfl rfl (f22_ok l0 q2 _ hc69) rfl rfl ?_
       refine GX.m rfl ?_
       refine GX.q (.bool c69a) ?_
       refine GX.q (.int .i64 c69b) ?_
       iterate 2 refine GX.m rfl ?_
       refine GX.done ?_
       refine WK.sr mixed ?_
       refine GX.m rfl ?_
       refine GX.q (.agg (TPrefix.c q2)) ?_
       generalize hc75 : F22_plist_Eval c63a q2 = c75 at hR
       rcases c75 with _ | c75
       ·try dsimp only at hR
        cases hR
       try dsimp only at hR
       obtain ⟨c75a, c75b⟩ := c75; try dsimp only at hR
       refine GX.callp (r := .tup [.bool c75a, .int .i64 c75b]) rfl rfl rfl (f22_ok c63a q2 _ hc75) rfl rfl ?_
       refine GX.m rfl ?_
       refine GX.q (.bool c75a) ?_
       refine GX.q (.int .i64 c75b) ?_
       iterate 2 refine GX.m rfl ?_
       refine GX.done ?_
       refine WK.seq ?_
       refine WK.sr mixed ?_
       refine GX.m rfl ?_
       refine GX.q (.bool (!decide (c63b = 0))) ?_
       refine GX.m rfl ?_
       rcases bool_two (decide (c63b = 0)) with hb16 | hb16
       ·rw [hb16]; first | replace hR := cond_f hb16 hR | (try simp only [hb16, bb] at hR)
        iterate 3 refine GX.skip rfl rfl ?_
        refine GX.q (.bool true) ?_
        refine GX.m rfl ?_
        iterate 3 refine GX.skip rfl rfl ?_
        refine GX.q (.bool true) ?_
        refine GX.m rfl ?_
        iterate 4 refine GX.skip rfl rfl ?_
        refine GX.q (.bool true) ?_
        refine GX.done ?_
        refine WK.condT rfl ?_
        refine WK.sr mixed ?_
        generalize hc96 : F11_crossroadslaw07_alive = c96 at hR
        rcases c96 with _ | c96
        ·try dsimp only at hR
         cases hR
        try dsimp only at hR
        try dsimp only at hR
        refine GX.callp (r := .bool c96) rfl rfl rfl (f11_ok  _ hc96) rfl rfl ?_
        refine GX.m rfl ?_
        refine GX.done ?_
        refine WK.ret ?_
        obtain rfl := Option.some.inj hR
        exact RetQ.fr [] (.inr rfl) rfl rfl rfl rfl
       ·rw [hb16]; first | replace hR := cond_t hb16 hR | (try simp only [hb16, bb] at hR)
        refine GX.q (.ptr 1 1) ?_
        refine GX.q (.int .i64 q2.N) ?_
        iterate 2 refine GX.q (.bool (decide (q2.N < 0))) ?_
        refine GX.m rfl ?_
        rcases bool_two (decide (q2.N < 0)) with hb17 | hb17
        ·rw [hb17]; first | replace hR := cond_f hb17 hR | (try simp only [hb17, bb] at hR)
         refine GX.q (.ptr 1 1) ?_
         refine GX.q (.int .i64 q2.N) ?_
         iterate 2 refine GX.q (.bool (decide (32 < q2.N))) ?_
         refine GX.m rfl ?_
         rcases bool_two (decide (32 < q2.N)) with hb18 | hb18
         ·rw [hb18]; first | replace hR := cond_f hb18 hR | (try simp only [hb18, bb] at hR)
          refine GX.q (.agg [.int .i64 1, .bool false, .int .u32 0, .int .i64 0, .int .i64 0, .int .i64 32]) ?_
          refine GX.q (.agg (TPrefix.c q2)) ?_
          generalize hc93 : F14_plist_Means (⟨1, false, (⟨0, 0⟩ : TPrefix), 0, 32⟩ : TRule) q2 = c93 at hR
          try dsimp only at hR
          refine GX.callp (r := .bool c93) rfl rfl rfl (f14_ok (⟨1, false, (⟨0, 0⟩ : TPrefix), 0, 32⟩ : TRule) q2 _ hc93) rfl rfl ?_
          iterate 2 refine GX.q (.bool (!c93)) ?_
          refine GX.done ?_
          rcases bool_two (c93) with hb19 | hb19
          ·rw [hb19]; first | replace hR := cond_f hb19 hR | (try simp only [hb19, bb] at hR)
           refine WK.condT rfl ?_
           refine WK.sr mixed ?_
           generalize hc96 : F11_crossroadslaw07_alive = c96 at hR
           rcases c96 with _ | c96
           ·try dsimp only at hR
            cases hR
           try dsimp only at hR
           try dsimp only at hR
           refine GX.callp (r := .bool c96) rfl rfl rfl (f11_ok  _ hc96) rfl rfl ?_
           refine GX.m rfl ?_
           refine GX.done ?_
           refine WK.ret ?_
           obtain rfl := Option.some.inj hR
           exact RetQ.fr [] (.inr rfl) rfl rfl rfl rfl
          ·rw [hb19]; first | replace hR := cond_t hb19 hR | (try simp only [hb19, bb] at hR)
           refine WK.condF rfl ?_
           refine WK.skip ?_
           refine WK.sr mixed ?_
           generalize hc97 : F11_crossroadslaw07_alive = c97 at hR
           rcases c97 with _ | c97
           ·try dsimp only at hR
            cases hR
           try dsimp only at hR
           try dsimp only at hR
           refine GX.callp (r := .bool c97) rfl rfl rfl (f11_ok  _ hc97) rfl rfl ?_
           refine GX.m rfl ?_
           rcases bool_two (c97) with hb20 | hb20
           ·rw [hb20]; first | replace hR := cond_f hb20 hR | (try simp only [hb20, bb] at hR)
            iterate 23 refine GX.skip rfl rfl ?_
            refine GX.q (.bool false) ?_
            refine GX.m rfl ?_
            refine GX.done ?_
            refine WK.ret ?_
            obtain rfl := Option.some.inj hR
            exact RetQ.fr [] (.inr rfl) rfl rfl rfl rfl
           ·rw [hb20]; first | replace hR := cond_t hb20 hR | (try simp only [hb20, bb] at hR)
            refine GX.m rfl ?_
            refine GX.q (.bool (!decide (c69b = 0))) ?_
            refine GX.m rfl ?_
            rcases bool_two (decide (c69b = 0)) with hb21 | hb21
            ·rw [hb21]; first | replace hR := cond_f hb21 hR | (try simp only [hb21, bb] at hR)
             iterate 2 refine GX.m rfl ?_
             iterate 2 refine GX.q (.bool (c75a == c69a)) ?_
             refine GX.m rfl ?_
             rcases bool_two ((c75a == c69a)) with hb22 | hb22
             ·rw [hb22]; try simp only [hb22, bb] at hR
              iterate 3 refine GX.skip rfl rfl ?_
              refine GX.q (.bool false) ?_
              iterate 2 refine GX.m rfl ?_
              refine GX.q (.bool (decide (c69b = 0))) ?_
              refine GX.m rfl ?_
              rw [hb21]
              refine GX.skip rfl rfl ?_
              refine GX.q (.bool false) ?_
              refine GX.m rfl ?_
              iterate 2 refine GX.skip rfl rfl ?_
              iterate 3 refine GX.q (.bool false) ?_
              refine GX.m rfl ?_
              refine GX.done ?_
              refine WK.ret ?_
              obtain rfl := Option.some.inj hR
              exact RetQ.fr [] (.inr rfl) rfl rfl rfl rfl
             ·rw [hb22]; try simp only [hb22, bb] at hR
              iterate 2 refine GX.m rfl ?_
              iterate 2 refine GX.q (.bool (decide (c75b = c69b))) ?_
              refine GX.m rfl ?_
              rcases bool_two (decide (c75b = c69b)) with hb23 | hb23
              ·rw [hb23]; first | replace hR := cond_f hb23 hR | (try simp only [hb23, bb] at hR)
               refine GX.m rfl ?_
               refine GX.q (.bool (decide (c69b = 0))) ?_
               refine GX.m rfl ?_
               rw [hb21]
               refine GX.skip rfl rfl ?_
               refine GX.q (.bool false) ?_
               refine GX.m rfl ?_
               iterate 2 refine GX.skip rfl rfl ?_
               iterate 3 refine GX.q (.bool false) ?_
               refine GX.m rfl ?_
               refine GX.done ?_
               refine WK.ret ?_
               obtain rfl := Option.some.inj hR
               exact RetQ.fr [] (.inr rfl) rfl rfl rfl rfl
              ·rw [hb23]; first | replace hR := cond_t hb23 hR | (try simp only [hb23, bb] at hR)
               iterate 9 refine GX.skip rfl rfl ?_
               iterate 2 refine GX.q (.bool true) ?_
               refine GX.m rfl ?_
               refine GX.done ?_
               refine WK.ret ?_
               obtain rfl := Option.some.inj hR
               exact RetQ.fr [] (.inr rfl) rfl rfl rfl rfl
            ·rw [hb21]; first | replace hR := cond_t hb21 hR | (try simp only [hb21, bb] at hR)
             iterate 3 refine GX.skip rfl rfl ?_
             refine GX.q (.bool false) ?_
             refine GX.m rfl ?_
             iterate 3 refine GX.skip rfl rfl ?_
             refine GX.q (.bool false) ?_
             iterate 2 refine GX.m rfl ?_
             refine GX.q (.bool (decide (c69b = 0))) ?_
             refine GX.m rfl ?_
             rw [hb21]
             refine GX.m rfl ?_
             refine GX.q (.bool c75a) ?_
             refine GX.m rfl ?_
             rcases bool_two (c75a) with hb24 | hb24
             ·rw [hb24]; first | replace hR := cond_f hb24 hR | (try simp only [hb24, bb] at hR)
              iterate 2 refine GX.skip rfl rfl ?_
              iterate 3 refine GX.q (.bool false) ?_
              refine GX.m rfl ?_
              refine GX.done ?_
              refine WK.ret ?_
              obtain rfl := Option.some.inj hR
              exact RetQ.fr [] (.inr rfl) rfl rfl rfl rfl
             ·rw [hb24]; first | replace hR := cond_t hb24 hR | (try simp only [hb24, bb] at hR)
              refine GX.m rfl ?_
              iterate 4 refine GX.q (.bool (decide (c75b = 65535))) ?_
              refine GX.m rfl ?_
              refine GX.done ?_
              refine WK.ret ?_
              obtain rfl := Option.some.inj hR
              exact RetQ.fr [] (.inr rfl) rfl rfl rfl rfl
         ·rw [hb18]; first | replace hR := cond_t hb18 hR | (try simp only [hb18, bb] at hR)
          iterate 4 refine GX.skip rfl rfl ?_
          refine GX.q (.bool true) ?_
          refine GX.done ?_
          refine WK.condT rfl ?_
          refine WK.sr mixed ?_
          generalize hc96 : F11_crossroadslaw07_alive = c96 at hR
          rcases c96 with _ | c96
          ·try dsimp only at hR
           cases hR
          try dsimp only at hR
          try dsimp only at hR
          refine GX.callp (r := .bool c96) rfl rfl rfl (f11_ok  _ hc96) rfl rfl ?_
          refine GX.m rfl ?_
          refine GX.done ?_
          refine WK.ret ?_
          obtain rfl := Option.some.inj hR
          exact RetQ.fr [] (.inr rfl) rfl rfl rfl rfl
        ·rw [hb17]; first | replace hR := cond_t hb17 hR | (try simp only [hb17, bb] at hR)
         iterate 3 refine GX.skip rfl rfl ?_
         refine GX.q (.bool true) ?_
         refine GX.m rfl ?_
         iterate 4 refine GX.skip rfl rfl ?_
         refine GX.q (.bool true) ?_
         refine GX.done ?_
         refine WK.condT rfl ?_
         refine WK.sr mixed ?_
         generalize hc96 : F11_crossroadslaw07_alive = c96 at hR
         rcases c96 with _ | c96
         ·try dsimp only at hR
          cases hR
         try dsimp only at hR
         try dsimp only at hR
         refine GX.callp (r := .bool c96) rfl rfl rfl (f11_ok  _ hc96) rfl rfl ?_
         refine GX.m rfl ?_
         refine GX.done ?_
         refine WK.ret ?_
         obtain rfl := Option.some.inj hR
         exact RetQ.fr [] (.inr rfl) rfl rfl rfl rfl
 ·rw [hb1]; first | replace hR := cond_t hb1 hR | (try simp only [hb1, bb] at hR)
  iterate 4 refine GX.skip rfl rfl ?_
  refine GX.q (.bool true) ?_
  refine GX.done ?_
  refine WK.condT rfl ?_
  refine WK.sr mixed ?_
  generalize hc26 : F11_crossroadslaw07_alive = c26 at hR
  rcases c26 with _ | c26
  ·try dsimp only at hR
   cases hR
  try dsimp only at hR
  try dsimp only at hR
  refine GX.callp (r := .bool c26) rfl rfl rfl (f11_ok  _ hc26) rfl rfl ?_
  refine GX.m rfl ?_
  refine GX.done ?_
  refine WK.ret ?_
  obtain rfl := Option.some.inj hR
  exact RetQ.fr [] (.inr rfl) rfl rfl rfl rfl

end Go.Proofs.YtjcpkgnlnmajjaaGreatDoor.Abs
