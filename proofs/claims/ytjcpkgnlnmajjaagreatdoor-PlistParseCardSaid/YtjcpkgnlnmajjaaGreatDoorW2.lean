/- The functions walked: each computes its Lean function (printed by this work's own program gen.py). -/
import Derived.Test.YtjcpkgnlnmajjaaGreatDoorSb
import Derived.Test.YtjcpkgnlnmajjaaGreatDoorW1
set_option linter.unusedVariables false
set_option linter.unusedSimpArgs false
set_option maxRecDepth 10000
set_option maxHeartbeats 4000000
namespace Go.Proofs.YtjcpkgnlnmajjaaGreatDoor.Abs
open Go

theorem f17_ok (s0 : ByteArray) (R : TRule × Int) (hR : F17_crossroadsref07_Parse s0 = some R) : FnOk Tryz.prog 17 [.str s0] [] 0 (.tup [.agg (TRule.c R.1), .int .i64 R.2]) [] 0 := by
 refine FnOk.wk i17 rfl rfl ?_
 unfold F17_crossroadsref07_Parse at hR
 try dsimp only at hR
 change WK _ _ _ [ac17] _ ⟨[(0, .str s0)], [], 0⟩
 unfold ac17
 refine WK.sr mixed ?_
 refine GX.step (v' := .ptr 0 0) (heap' := [(0, .box [.int .i64 0, .bool false, .int .u32 0, .int .i64 0, .int .i64 0, .int .i64 0])]) (next' := 1) rfl rfl rfl rfl rfl rfl rfl ?_
 refine GX.m rfl ?_
 refine GX.done ?_
 refine WK.seq ?_
 refine WK.sr mixed ?_
 refine GX.m rfl ?_
 refine GX.q (.int .i64 (s0.size : Int)) ?_
 refine GX.q (.bool (decide (100 < (s0.size : Int)))) ?_
 refine GX.done ?_
 rcases bool_two (decide (100 < (s0.size : Int))) with hb1 | hb1
 ·rw [hb1]; first | replace hR := cond_f hb1 hR | (try simp only [hb1, bb] at hR)
  refine WK.condF rfl ?_
  refine WK.skip ?_
  refine WK.sr mixed ?_
  refine GX.m rfl ?_
  generalize hc15 : F45_crossroadsref07_Words s0 = c15 at hR
  rcases c15 with _ | c15
  ·try dsimp only at hR
   cases hR
  try dsimp only at hR
  try dsimp only at hR
  refine GX.callp (r := .ro 1 (c15.map c_str)) rfl rfl rfl (f45_ok s0 _ hc15) rfl rfl ?_
  refine GX.m rfl ?_
  refine GX.done ?_
  refine WK.seq ?_
  refine WK.sr mixed ?_
  refine GX.m rfl ?_
  refine GX.pure (v' := .int .i64 (c15.length : Int)) rfl rfl rfl rfl (len_map _ _) ?_
  refine GX.q (.bool (decide ((c15.length : Int) < 3))) ?_
  refine GX.m rfl ?_
  rcases bool_two (decide ((c15.length : Int) < 3)) with hb2 | hb2
  ·rw [hb2]; first | replace hR := cond_f hb2 hR | (try simp only [hb2, bb] at hR)
   refine GX.m rfl ?_
   refine GX.pure (v' := .int .i64 (c15.length : Int)) rfl rfl rfl rfl (len_map _ _) ?_
   iterate 2 refine GX.q (.bool (decide (7 < (c15.length : Int)))) ?_
   refine GX.m rfl ?_
   rcases bool_two (decide (7 < (c15.length : Int))) with hb3 | hb3
   ·rw [hb3]; first | replace hR := cond_f hb3 hR | (try simp only [hb3, bb] at hR)
    refine GX.m rfl ?_
    refine GX.pure (v' := .int .i64 (c15.length : Int)) rfl rfl rfl rfl (len_map _ _) ?_
    refine GX.q (.int .i64 (Int.tmod (c15.length : Int) 2)) ?_
    iterate 2 refine GX.q (.bool (decide ((Int.tmod (c15.length : Int) 2) = 0))) ?_
    refine GX.m rfl ?_
    rcases bool_two (decide ((Int.tmod (c15.length : Int) 2) = 0)) with hb4 | hb4
    ·rw [hb4]; first | replace hR := cond_f hb4 hR | (try simp only [hb4, bb] at hR)
     refine GX.m rfl ?_
     generalize hx904 : getI c15 0 = x904 at hR
     rcases x904 with _ | x904
     ·try dsimp only at hR
      cases hR
     try dsimp only at hR
     obtain ⟨hx9040, hx904j, hx904l, hx904⟩ := getI_some hx904
     refine GX.idxT (c := c_str) (x := x904) rfl rfl rfl hx9040 hx904 ?_
     refine GX.q (.str x904) ?_
     generalize hc34 : F46_crossroadsref07_Number x904 = c34 at hR
     rcases c34 with _ | c34
     ·try dsimp only at hR
      cases hR
     try dsimp only at hR
     try dsimp only at hR
     refine GX.callp (r := .int .i64 c34) rfl rfl rfl (f46_ok x904 _ hc34) rfl rfl ?_
     iterate 2 refine GX.q (.bool (decide (c34 = 0))) ?_
     refine GX.m rfl ?_
     rcases bool_two (decide (c34 = 0)) with hb6 | hb6
     ·rw [hb6]; first | replace hR := cond_f hb6 hR | (try simp only [hb6, bb] at hR)
      refine GX.m rfl ?_
      generalize hx906 : getI c15 1 = x906 at hR
      rcases x906 with _ | x906
      ·try dsimp only at hR
       cases hR
      try dsimp only at hR
      obtain ⟨hx9060, hx906j, hx906l, hx906⟩ := getI_some hx906
      refine GX.idxT (c := c_str) (x := x906) rfl rfl rfl hx9060 hx906 ?_
      refine GX.q (.str x906) ?_
      refine GX.q (.bool (!(x906.toList == (bstr [112, 101, 114, 109, 105, 116]).toList))) ?_
      refine GX.m rfl ?_
      rcases bool_two (x906.toList == (bstr [112, 101, 114, 109, 105, 116]).toList) with hb8 | hb8
      ·rw [hb8]; first | replace hR := cond_f hb8 hR | (try simp only [hb8, bb] at hR)
       refine GX.m rfl ?_
       refine GX.idxT (c := c_str) (x := x906) rfl rfl rfl hx9060 hx906 ?_
       refine GX.q (.str x906) ?_
       iterate 3 refine GX.q (.bool (!(x906.toList == (bstr [100, 101, 110, 121]).toList))) ?_
       refine GX.done ?_
       rcases bool_two (x906.toList == (bstr [100, 101, 110, 121]).toList) with hb9 | hb9
       ·rw [hb9]; first | replace hR := cond_f hb9 hR | (try simp only [hb9, bb] at hR)
        refine WK.condT rfl ?_
        refine WK.sr mixed ?_
        refine GX.q (.agg [.int .i64 0, .bool false, .int .u32 0, .int .i64 0, .int .i64 0, .int .i64 0]) ?_
        refine GX.step0 (heap' := [(0, .box [.int .i64 0, .bool false, .int .u32 0, .int .i64 0, .int .i64 0, .int .i64 0])]) (next' := 1) rfl rfl rfl rfl rfl ?_
        refine GX.m rfl ?_
        refine GX.done ?_
        refine WK.ret ?_
        obtain rfl := Option.some.inj hR
        exact RetQ.fr [] (.inr rfl) rfl rfl rfl rfl
       ·rw [hb9]; first | replace hR := cond_t hb9 hR | (try simp only [hb9, bb] at hR)
        refine WK.condF rfl ?_
        refine WK.skip ?_
        refine WK.seq ?_
        refine WK.drawn mixed ?_
        refine RD.m rfl ?_
        refine RD.idxT (c := c_str) (x := x904) rfl rfl rfl hx9040 hx904 ?_
        refine RD.q (.str x904) ?_
        refine RD.callp (r := .int .i64 c34) rfl rfl rfl (f46_ok x904 _ hc34) rfl rfl ?_
        refine RD.m rfl ?_
        refine RD.idxT (c := c_str) (x := x906) rfl rfl rfl hx9060 hx906 ?_
        refine RD.q (.str x906) ?_
        refine RD.q (.bool (x906.toList == (bstr [112, 101, 114, 109, 105, 116]).toList)) ?_
        refine RD.q (.agg [.int .i64 c34, .bool (x906.toList == (bstr [112, 101, 114, 109, 105, 116]).toList), .int .u32 0, .int .i64 0, .int .i64 0, .int .i64 0]) ?_
        refine RD.step (v' := .ptr 1 0) (heap' := [(0, .box [.int .i64 0, .bool false, .int .u32 0, .int .i64 0, .int .i64 0, .int .i64 0]), (1, .box [.int .i64 0, .bool false, .int .u32 0, .int .i64 0, .int .i64 0, .int .i64 0])]) (next' := 2) rfl rfl rfl rfl rfl rfl rfl ?_
        refine RD.step0 (heap' := [(0, .box [.int .i64 0, .bool false, .int .u32 0, .int .i64 0, .int .i64 0, .int .i64 0]), (1, .box [.int .i64 c34, .bool (x906.toList == (bstr [112, 101, 114, 109, 105, 116]).toList), .int .u32 0, .int .i64 0, .int .i64 0, .int .i64 0])]) (next' := 2) rfl rfl rfl rfl rfl ?_
        refine RD.done rfl ?_
        refine WK.sr mixed ?_
        refine GX.m rfl ?_
        generalize hx909 : getI c15 2 = x909 at hR
        rcases x909 with _ | x909
        ·try dsimp only at hR
         cases hR
        try dsimp only at hR
        obtain ⟨hx9090, hx909j, hx909l, hx909⟩ := getI_some hx909
        refine GX.idxT (c := c_str) (x := x909) rfl rfl rfl hx9090 hx909 ?_
        refine GX.q (.str x909) ?_
        generalize hc63 : F47_crossroadsref03_Parse x909 = c63 at hR
        rcases c63 with _ | c63
        ·try dsimp only at hR
         cases hR
        try dsimp only at hR
        obtain ⟨c63a, c63b⟩ := c63; try dsimp only at hR
        refine GX.callp (r := .tup [.agg [.int .u32 c63a.A, .int .i64 c63a.N], .int .i64 c63b]) rfl rfl rfl (f47_ok x909 _ hc63) rfl rfl ?_
        refine GX.m rfl ?_
        refine GX.q (.agg [.int .u32 c63a.A, .int .i64 c63a.N]) ?_
        refine GX.q (.int .i64 c63b) ?_
        refine GX.step (v' := .ptr 2 0) (heap' := [(0, .box [.int .i64 0, .bool false, .int .u32 0, .int .i64 0, .int .i64 0, .int .i64 0]), (1, .box [.int .i64 c34, .bool (x906.toList == (bstr [112, 101, 114, 109, 105, 116]).toList), .int .u32 0, .int .i64 0, .int .i64 0, .int .i64 0]), (2, .box [.int .u32 0, .int .i64 0])]) (next' := 3) rfl rfl rfl rfl rfl rfl rfl ?_
        refine GX.step0 (heap' := [(0, .box [.int .i64 0, .bool false, .int .u32 0, .int .i64 0, .int .i64 0, .int .i64 0]), (1, .box [.int .i64 c34, .bool (x906.toList == (bstr [112, 101, 114, 109, 105, 116]).toList), .int .u32 0, .int .i64 0, .int .i64 0, .int .i64 0]), (2, .box (TPrefix.c c63a))]) (next' := 3) rfl rfl rfl rfl rfl ?_
        refine GX.m rfl ?_
        refine GX.done ?_
        refine WK.seq ?_
        refine WK.sr mixed ?_
        refine GX.m rfl ?_
        refine GX.q (.bool (decide (c63b = 3))) ?_
        refine GX.done ?_
        rcases bool_two (decide (c63b = 3)) with hb11 | hb11
        ·rw [hb11]; first | replace hR := cond_f hb11 hR | (try simp only [hb11, bb] at hR)
         refine WK.condF rfl ?_
         refine WK.skip ?_
         refine WK.sr mixed ?_
         refine GX.q (.agg (TPrefix.c c63a)) ?_
         refine GX.q (.ptr 1 2) ?_
         refine GX.step0 (heap' := [(0, .box [.int .i64 0, .bool false, .int .u32 0, .int .i64 0, .int .i64 0, .int .i64 0]), (1, .box [.int .i64 c34, .bool (x906.toList == (bstr [112, 101, 114, 109, 105, 116]).toList), .int .u32 c63a.A, .int .i64 c63a.N, .int .i64 0, .int .i64 0]), (2, .box (TPrefix.c c63a))]) (next' := 3) rfl rfl rfl rfl rfl ?_
         refine GX.done ?_
         refine WK.seq ?_
         refine WK.sr mixed ?_
         refine GX.m rfl ?_
         refine GX.done ?_
         refine WK.len (t := 4) rfl (by simp) (fun hln4_23 => ?_)
         rw [List.length_map] at hln4_23
         generalize hZ_23 : F17_crossroadsref07_Parse_l1 c15 100 3 (⟨c34, (x906.toList == (bstr [112, 101, 114, 109, 105, 116]).toList), c63a, 0, 0⟩ : TRule) = Z_23 at hR
         refine WK.forK (fun k s => ∃ (i8 : Int) (x5 : TRule), F17_crossroadsref07_Parse_l1 c15 k i8 x5 = Z_23 ∧ s = ⟨[(2, .ptr 0 0), (4, .ro 1 (c15.map c_str)), (5, .ptr 1 0), (7, .int .i64 c63b), (8, .int .i64 i8)], [(0, .box [.int .i64 0, .bool false, .int .u32 0, .int .i64 0, .int .i64 0, .int .i64 0]), (1, .box (TRule.c x5))], 2⟩) 100 ⟨⟨[(2, .ptr 0 0), (4, .ro 1 (c15.map c_str)), (5, .ptr 1 0), (7, .int .i64 c63b), (8, .int .i64 3)], [(0, .box [.int .i64 0, .bool false, .int .u32 0, .int .i64 0, .int .i64 0, .int .i64 0]), (1, .box (TRule.c (⟨c34, (x906.toList == (bstr [112, 101, 114, 109, 105, 116]).toList), c63a, 0, 0⟩ : TRule)))], 2⟩, Conv.keep [0, 1] [] [2, 4, 5, 7, 8] rfl rfl (viewE_cons rfl rfl (viewE_cons rfl rfl (viewE_cons rfl rfl (viewE_cons rfl rfl (viewE_cons rfl rfl viewE_nil))))) rfl rfl, 3, (⟨c34, (x906.toList == (bstr [112, 101, 114, 109, 105, 116]).toList), c63a, 0, 0⟩ : TRule), hZ_23, rfl⟩ ?_
         rintro k23 _ ⟨i8, x5, hL_23, rfl⟩ again_23 out_23 Q_23 hagain_23 hout_23 hQ_23
         rcases k23 with _ | f23
         ·unfold F17_crossroadsref07_Parse_l1 at hL_23
          try dsimp only at hL_23
          subst hL_23
          try dsimp only at hR
          cases hR
         unfold F17_crossroadsref07_Parse_l1 at hL_23; try dsimp only at hL_23
         refine WK.seq ?_
         refine WK.sr mixed ?_
         iterate 2 refine GX.m rfl ?_
         refine GX.pure (v' := .int .i64 (c15.length : Int)) rfl rfl rfl rfl (len_map _ _) ?_
         refine GX.q (.bool (decide (i8 < (c15.length : Int)))) ?_
         refine GX.done ?_
         rcases bool_two (decide (i8 < (c15.length : Int))) with hb24 | hb24
         ·rw [hb24]; try simp only [hb24, bb] at hL_23
          refine WK.condF rfl ?_
          refine WK.exit ?_
          refine QF.exit (hout_23 _ ?_)
          subst hL_23
          try dsimp only [cond_true, cond_false] at hR
          refine WK.seq ?_
          refine WK.sr mixed ?_
          refine GX.m rfl ?_
          refine GX.q (.bool (!decide (c63b = 0))) ?_
          refine GX.m rfl ?_
          rcases bool_two (decide (c63b = 0)) with hb25 | hb25
          ·rw [hb25]; first | replace hR := cond_f hb25 hR | (try simp only [hb25, bb] at hR)
           iterate 3 refine GX.skip rfl rfl ?_
           refine GX.q (.bool true) ?_
           refine GX.done ?_
           refine WK.condT rfl ?_
           refine WK.sr mixed ?_
           refine GX.q (.agg [.int .i64 0, .bool false, .int .u32 0, .int .i64 0, .int .i64 0, .int .i64 0]) ?_
           refine GX.step0 (heap' := [(0, .box [.int .i64 0, .bool false, .int .u32 0, .int .i64 0, .int .i64 0, .int .i64 0]), (1, .box (TRule.c x5))]) (next' := 2) rfl rfl rfl rfl rfl ?_
           refine GX.m rfl ?_
           refine GX.done ?_
           refine WK.ret ?_
           obtain rfl := Option.some.inj hR
           exact RetQ.fr [] (.inr rfl) rfl rfl rfl rfl
          ·rw [hb25]; first | replace hR := cond_t hb25 hR | (try simp only [hb25, bb] at hR)
           refine GX.q (.agg (TRule.c x5)) ?_
           generalize hc116 : F12_crossroadsref07_May x5 = c116 at hR
           try dsimp only at hR
           refine GX.callp (r := .bool c116) rfl rfl rfl (f12_ok x5 _ hc116) rfl rfl ?_
           iterate 2 refine GX.q (.bool (!c116)) ?_
           refine GX.done ?_
           rcases bool_two (c116) with hb26 | hb26
           ·rw [hb26]; first | replace hR := cond_f hb26 hR | (try simp only [hb26, bb] at hR)
            refine WK.condT rfl ?_
            refine WK.sr mixed ?_
            refine GX.q (.agg [.int .i64 0, .bool false, .int .u32 0, .int .i64 0, .int .i64 0, .int .i64 0]) ?_
            refine GX.step0 (heap' := [(0, .box [.int .i64 0, .bool false, .int .u32 0, .int .i64 0, .int .i64 0, .int .i64 0]), (1, .box (TRule.c x5))]) (next' := 2) rfl rfl rfl rfl rfl ?_
            refine GX.m rfl ?_
            refine GX.done ?_
            refine WK.ret ?_
            obtain rfl := Option.some.inj hR
            exact RetQ.fr [] (.inr rfl) rfl rfl rfl rfl
           ·rw [hb26]; first | replace hR := cond_t hb26 hR | (try simp only [hb26, bb] at hR)
            refine WK.condF rfl ?_
            refine WK.skip ?_
            refine WK.sr mixed ?_
            refine GX.q (.agg (TRule.c x5)) ?_
            refine GX.step0 (heap' := [(0, .box (TRule.c x5)), (1, .box (TRule.c x5))]) (next' := 2) rfl rfl rfl rfl rfl ?_
            refine GX.m rfl ?_
            refine GX.done ?_
            refine WK.ret ?_
            obtain rfl := Option.some.inj hR
            exact RetQ.fr [] (.inr rfl) rfl rfl rfl rfl
         ·rw [hb24]; try simp only [hb24, bb] at hL_23
          refine WK.condT rfl ?_
          refine WK.skip ?_
          refine WK.seq ?_
          refine WK.blockK (fun _ hK27 => ?_)
          refine WK.sr mixed ?_
          iterate 2 refine GX.m rfl ?_
          refine GX.q (.int .i64 (IntKind.i64.wrap (i8 + 1))) ?_
          generalize hx927 : getI c15 (IntKind.i64.wrap (i8 + 1)) = x927 at hL_23
          rcases x927 with _ | x927
          ·try dsimp only at hL_23
           subst hL_23
           try dsimp only at hR
           cases hR
          try dsimp only at hL_23
          obtain ⟨hx9270, hx927j, hx927l, hx927⟩ := getI_some hx927
          refine GX.idxT (c := c_str) (x := x927) rfl rfl rfl hx9270 hx927 ?_
          refine GX.q (.str x927) ?_
          generalize hc82 : F46_crossroadsref07_Number x927 = c82 at hL_23
          rcases c82 with _ | c82
          ·try dsimp only at hL_23
           subst hL_23
           try dsimp only at hR
           cases hR
          try dsimp only at hL_23
          try dsimp only at hL_23
          refine GX.callp (r := .int .i64 c82) rfl rfl rfl (f46_ok x927 _ hc82) rfl rfl ?_
          refine GX.m rfl ?_
          refine GX.done ?_
          refine WK.seq ?_
          refine WK.sr mixed ?_
          refine GX.m rfl ?_
          refine GX.q (.bool (decide (c82 = 0))) ?_
          refine GX.done ?_
          rcases bool_two (decide (c82 = 0)) with hb29 | hb29
          ·rw [hb29]; try simp only [hb29, bb] at hL_23
           refine WK.condF rfl ?_
           refine WK.skip ?_
           refine WK.sr mixed ?_
           iterate 2 refine GX.m rfl ?_
           generalize hx929 : getI c15 i8 = x929 at hL_23
           rcases x929 with _ | x929
           ·try dsimp only at hL_23
            subst hL_23
            try dsimp only at hR
            cases hR
           try dsimp only at hL_23
           obtain ⟨hx9290, hx929j, hx929l, hx929⟩ := getI_some hx929
           refine GX.idxT (c := c_str) (x := x929) rfl rfl rfl hx9290 hx929 ?_
           refine GX.q (.str x929) ?_
           refine GX.q (.bool (x929.toList == (bstr [103, 101]).toList)) ?_
           refine GX.m rfl ?_
           rcases bool_two ((x929.toList == (bstr [103, 101]).toList)) with hb31 | hb31
           ·rw [hb31]; try simp only [hb31, bb] at hL_23
            iterate 2 refine GX.skip rfl rfl ?_
            refine GX.q (.bool false) ?_
            refine GX.done ?_
            refine WK.condF rfl ?_
            refine WK.sr mixed ?_
            iterate 2 refine GX.m rfl ?_
            refine GX.idxT (c := c_str) (x := x929) rfl rfl rfl hx9290 hx929 ?_
            refine GX.q (.str x929) ?_
            refine GX.q (.bool (x929.toList == (bstr [108, 101]).toList)) ?_
            refine GX.m rfl ?_
            rcases bool_two ((x929.toList == (bstr [108, 101]).toList)) with hb32 | hb32
            ·rw [hb32]; try simp only [hb32, bb] at hL_23
             iterate 5 refine GX.skip rfl rfl ?_
             refine GX.q (.bool false) ?_
             refine GX.done ?_
             refine WK.condF rfl ?_
             refine WK.sr mixed ?_
             refine GX.q (.agg [.int .i64 0, .bool false, .int .u32 0, .int .i64 0, .int .i64 0, .int .i64 0]) ?_
             refine GX.step0 (heap' := [(0, .box [.int .i64 0, .bool false, .int .u32 0, .int .i64 0, .int .i64 0, .int .i64 0]), (1, .box (TRule.c x5))]) (next' := 2) rfl rfl rfl rfl rfl ?_
             refine GX.m rfl ?_
             refine GX.done ?_
             refine WK.ret ?_
             refine QF.ret ?_
             refine QF.ret (hQ_23 _ _ ?_)
             subst hL_23
             try dsimp only at hR
             obtain rfl := Option.some.inj hR
             exact RetQ.fr [] (.inr rfl) rfl rfl rfl rfl
            ·rw [hb32]; try simp only [hb32, bb] at hL_23
             iterate 2 refine GX.m rfl ?_
             refine GX.pure (v' := .int .i64 (c15.length : Int)) rfl rfl rfl rfl (len_map _ _) ?_
             refine GX.q (.int .i64 (IntKind.i64.wrap ((c15.length : Int) - 2))) ?_
             iterate 2 refine GX.q (.bool (decide (i8 = IntKind.i64.wrap ((c15.length : Int) - 2)))) ?_
             refine GX.done ?_
             rcases bool_two (decide (i8 = IntKind.i64.wrap ((c15.length : Int) - 2))) with hb33 | hb33
             ·rw [hb33]; try simp only [hb33, bb] at hL_23
              refine WK.condF rfl ?_
              refine WK.sr mixed ?_
              refine GX.q (.agg [.int .i64 0, .bool false, .int .u32 0, .int .i64 0, .int .i64 0, .int .i64 0]) ?_
              refine GX.step0 (heap' := [(0, .box [.int .i64 0, .bool false, .int .u32 0, .int .i64 0, .int .i64 0, .int .i64 0]), (1, .box (TRule.c x5))]) (next' := 2) rfl rfl rfl rfl rfl ?_
              refine GX.m rfl ?_
              refine GX.done ?_
              refine WK.ret ?_
              refine QF.ret ?_
              refine QF.ret (hQ_23 _ _ ?_)
              subst hL_23
              try dsimp only at hR
              obtain rfl := Option.some.inj hR
              exact RetQ.fr [] (.inr rfl) rfl rfl rfl rfl
             ·rw [hb33]; try simp only [hb33, bb] at hL_23
              refine WK.condT rfl ?_
              refine WK.regx mixed ?_
              refine GX.m rfl ?_
              refine GX.q (.ptr 1 5) ?_
              refine GX.step0 (heap' := [(0, .box [.int .i64 0, .bool false, .int .u32 0, .int .i64 0, .int .i64 0, .int .i64 0]), (1, .box [.int .i64 x5.Seq, .bool x5.Permit, .int .u32 x5.P.A, .int .i64 x5.P.N, .int .i64 x5.Ge, .int .i64 c82])]) (next' := 2) rfl rfl rfl rfl rfl ?_
              refine GX.done ?_
              refine WK.nil (QF.normal (hK27 _ ?_))
              refine WK.regx mixed ?_
              refine GX.m rfl ?_
              refine GX.q (.int .i64 (IntKind.i64.wrap (i8 + 2))) ?_
              refine GX.m rfl ?_
              refine GX.done ?_
              refine WK.nil (QF.normal ?_)
              exact hagain_23 _ f23 ⟨[(2, .ptr 0 0), (4, .ro 1 (c15.map c_str)), (5, .ptr 1 0), (7, .int .i64 c63b), (8, .int .i64 (IntKind.i64.wrap (i8 + 2)))], [(0, .box [.int .i64 0, .bool false, .int .u32 0, .int .i64 0, .int .i64 0, .int .i64 0]), (1, .box (TRule.c (⟨x5.Seq, x5.Permit, x5.P, x5.Ge, c82⟩ : TRule)))], 2⟩ (Nat.lt_succ_self _) (Conv.keep [0, 1] [] [2, 4, 5, 7, 8] rfl rfl (viewE_cons rfl rfl (viewE_cons rfl rfl (viewE_cons rfl rfl (viewE_cons rfl rfl (viewE_cons rfl rfl viewE_nil))))) rfl rfl) ⟨(IntKind.i64.wrap (i8 + 2)), (⟨x5.Seq, x5.Permit, x5.P, x5.Ge, c82⟩ : TRule), hL_23, rfl⟩
           ·rw [hb31]; try simp only [hb31, bb] at hL_23
            refine GX.m rfl ?_
            iterate 2 refine GX.q (.bool (decide (i8 = 3))) ?_
            refine GX.done ?_
            rcases bool_two (decide (i8 = 3)) with hb34 | hb34
            ·rw [hb34]; try simp only [hb34, bb] at hL_23
             refine WK.condF rfl ?_
             refine WK.sr mixed ?_
             iterate 2 refine GX.m rfl ?_
             refine GX.idxT (c := c_str) (x := x929) rfl rfl rfl hx9290 hx929 ?_
             refine GX.q (.str x929) ?_
             refine GX.q (.bool (x929.toList == (bstr [108, 101]).toList)) ?_
             refine GX.m rfl ?_
             rcases bool_two ((x929.toList == (bstr [108, 101]).toList)) with hb35 | hb35
             ·rw [hb35]; try simp only [hb35, bb] at hL_23
              iterate 5 refine GX.skip rfl rfl ?_
              refine GX.q (.bool false) ?_
              refine GX.done ?_
              refine WK.condF rfl ?_
              refine WK.sr mixed ?_
              refine GX.q (.agg [.int .i64 0, .bool false, .int .u32 0, .int .i64 0, .int .i64 0, .int .i64 0]) ?_
              refine GX.step0 (heap' := [(0, .box [.int .i64 0, .bool false, .int .u32 0, .int .i64 0, .int .i64 0, .int .i64 0]), (1, .box (TRule.c x5))]) (next' := 2) rfl rfl rfl rfl rfl ?_
              refine GX.m rfl ?_
              refine GX.done ?_
              refine WK.ret ?_
              refine QF.ret ?_
              refine QF.ret (hQ_23 _ _ ?_)
              subst hL_23
              try dsimp only at hR
              obtain rfl := Option.some.inj hR
              exact RetQ.fr [] (.inr rfl) rfl rfl rfl rfl
             ·rw [hb35]; try simp only [hb35, bb] at hL_23
              iterate 2 refine GX.m rfl ?_
              refine GX.pure (v' := .int .i64 (c15.length : Int)) rfl rfl rfl rfl (len_map _ _) ?_
              refine GX.q (.int .i64 (IntKind.i64.wrap ((c15.length : Int) - 2))) ?_
              iterate 2 refine GX.q (.bool (decide (i8 = IntKind.i64.wrap ((c15.length : Int) - 2)))) ?_
              refine GX.done ?_
              rcases bool_two (decide (i8 = IntKind.i64.wrap ((c15.length : Int) - 2))) with hb36 | hb36
              ·rw [hb36]; try simp only [hb36, bb] at hL_23
               refine WK.condF rfl ?_
               refine WK.sr mixed ?_
               refine GX.q (.agg [.int .i64 0, .bool false, .int .u32 0, .int .i64 0, .int .i64 0, .int .i64 0]) ?_
               refine GX.step0 (heap' := [(0, .box [.int .i64 0, .bool false, .int .u32 0, .int .i64 0, .int .i64 0, .int .i64 0]), (1, .box (TRule.c x5))]) (next' := 2) rfl rfl rfl rfl rfl ?_
               refine GX.m rfl ?_
               refine GX.done ?_
               refine WK.ret ?_
               refine QF.ret ?_
               refine QF.ret (hQ_23 _ _ ?_)
               subst hL_23
               try dsimp only at hR
               obtain rfl := Option.some.inj hR
               exact RetQ.fr [] (.inr rfl) rfl rfl rfl rfl
              ·rw [hb36]; try simp only [hb36, bb] at hL_23
               refine WK.condT rfl ?_
               refine WK.regx mixed ?_
               refine GX.m rfl ?_
               refine GX.q (.ptr 1 5) ?_
               refine GX.step0 (heap' := [(0, .box [.int .i64 0, .bool false, .int .u32 0, .int .i64 0, .int .i64 0, .int .i64 0]), (1, .box [.int .i64 x5.Seq, .bool x5.Permit, .int .u32 x5.P.A, .int .i64 x5.P.N, .int .i64 x5.Ge, .int .i64 c82])]) (next' := 2) rfl rfl rfl rfl rfl ?_
               refine GX.done ?_
               refine WK.nil (QF.normal (hK27 _ ?_))
               refine WK.regx mixed ?_
               refine GX.m rfl ?_
               refine GX.q (.int .i64 (IntKind.i64.wrap (i8 + 2))) ?_
               refine GX.m rfl ?_
               refine GX.done ?_
               refine WK.nil (QF.normal ?_)
               exact hagain_23 _ f23 ⟨[(2, .ptr 0 0), (4, .ro 1 (c15.map c_str)), (5, .ptr 1 0), (7, .int .i64 c63b), (8, .int .i64 (IntKind.i64.wrap (i8 + 2)))], [(0, .box [.int .i64 0, .bool false, .int .u32 0, .int .i64 0, .int .i64 0, .int .i64 0]), (1, .box (TRule.c (⟨x5.Seq, x5.Permit, x5.P, x5.Ge, c82⟩ : TRule)))], 2⟩ (Nat.lt_succ_self _) (Conv.keep [0, 1] [] [2, 4, 5, 7, 8] rfl rfl (viewE_cons rfl rfl (viewE_cons rfl rfl (viewE_cons rfl rfl (viewE_cons rfl rfl (viewE_cons rfl rfl viewE_nil))))) rfl rfl) ⟨(IntKind.i64.wrap (i8 + 2)), (⟨x5.Seq, x5.Permit, x5.P, x5.Ge, c82⟩ : TRule), hL_23, rfl⟩
            ·rw [hb34]; try simp only [hb34, bb] at hL_23
             refine WK.condT rfl ?_
             refine WK.regx mixed ?_
             refine GX.m rfl ?_
             refine GX.q (.ptr 1 4) ?_
             refine GX.step0 (heap' := [(0, .box [.int .i64 0, .bool false, .int .u32 0, .int .i64 0, .int .i64 0, .int .i64 0]), (1, .box [.int .i64 x5.Seq, .bool x5.Permit, .int .u32 x5.P.A, .int .i64 x5.P.N, .int .i64 c82, .int .i64 x5.Le])]) (next' := 2) rfl rfl rfl rfl rfl ?_
             refine GX.done ?_
             refine WK.nil (QF.normal (hK27 _ ?_))
             refine WK.regx mixed ?_
             refine GX.m rfl ?_
             refine GX.q (.int .i64 (IntKind.i64.wrap (i8 + 2))) ?_
             refine GX.m rfl ?_
             refine GX.done ?_
             refine WK.nil (QF.normal ?_)
             exact hagain_23 _ f23 ⟨[(2, .ptr 0 0), (4, .ro 1 (c15.map c_str)), (5, .ptr 1 0), (7, .int .i64 c63b), (8, .int .i64 (IntKind.i64.wrap (i8 + 2)))], [(0, .box [.int .i64 0, .bool false, .int .u32 0, .int .i64 0, .int .i64 0, .int .i64 0]), (1, .box (TRule.c (⟨x5.Seq, x5.Permit, x5.P, c82, x5.Le⟩ : TRule)))], 2⟩ (Nat.lt_succ_self _) (Conv.keep [0, 1] [] [2, 4, 5, 7, 8] rfl rfl (viewE_cons rfl rfl (viewE_cons rfl rfl (viewE_cons rfl rfl (viewE_cons rfl rfl (viewE_cons rfl rfl viewE_nil))))) rfl rfl) ⟨(IntKind.i64.wrap (i8 + 2)), (⟨x5.Seq, x5.Permit, x5.P, c82, x5.Le⟩ : TRule), hL_23, rfl⟩
          ·rw [hb29]; try simp only [hb29, bb] at hL_23
           refine WK.condT rfl ?_
           refine WK.sr mixed ?_
           refine GX.q (.agg [.int .i64 0, .bool false, .int .u32 0, .int .i64 0, .int .i64 0, .int .i64 0]) ?_
           refine GX.step0 (heap' := [(0, .box [.int .i64 0, .bool false, .int .u32 0, .int .i64 0, .int .i64 0, .int .i64 0]), (1, .box (TRule.c x5))]) (next' := 2) rfl rfl rfl rfl rfl ?_
           refine GX.m rfl ?_
           refine GX.done ?_
           refine WK.ret ?_
           refine QF.ret ?_
           refine QF.ret (hQ_23 _ _ ?_)
           subst hL_23
           try dsimp only at hR
           obtain rfl := Option.some.inj hR
           exact RetQ.fr [] (.inr rfl) rfl rfl rfl rfl
        ·rw [hb11]; first | replace hR := cond_t hb11 hR | (try simp only [hb11, bb] at hR)
         refine WK.condT rfl ?_
         refine WK.sr mixed ?_
         refine GX.q (.agg [.int .i64 0, .bool false, .int .u32 0, .int .i64 0, .int .i64 0, .int .i64 0]) ?_
         refine GX.step0 (heap' := [(0, .box [.int .i64 0, .bool false, .int .u32 0, .int .i64 0, .int .i64 0, .int .i64 0]), (1, .box [.int .i64 c34, .bool (x906.toList == (bstr [112, 101, 114, 109, 105, 116]).toList), .int .u32 0, .int .i64 0, .int .i64 0, .int .i64 0]), (2, .box (TPrefix.c c63a))]) (next' := 3) rfl rfl rfl rfl rfl ?_
         refine GX.m rfl ?_
         refine GX.done ?_
         refine WK.ret ?_
         obtain rfl := Option.some.inj hR
         exact RetQ.fr [] (.inr rfl) rfl rfl rfl rfl
      ·rw [hb8]; first | replace hR := cond_t hb8 hR | (try simp only [hb8, bb] at hR)
       iterate 4 refine GX.skip rfl rfl ?_
       iterate 2 refine GX.q (.bool false) ?_
       refine GX.done ?_
       refine WK.condF rfl ?_
       refine WK.skip ?_
       refine WK.seq ?_
       refine WK.drawn mixed ?_
       refine RD.m rfl ?_
       refine RD.idxT (c := c_str) (x := x904) rfl rfl rfl hx9040 hx904 ?_
       refine RD.q (.str x904) ?_
       refine RD.callp (r := .int .i64 c34) rfl rfl rfl (f46_ok x904 _ hc34) rfl rfl ?_
       refine RD.m rfl ?_
       refine RD.idxT (c := c_str) (x := x906) rfl rfl rfl hx9060 hx906 ?_
       refine RD.q (.str x906) ?_
       refine RD.q (.bool (x906.toList == (bstr [112, 101, 114, 109, 105, 116]).toList)) ?_
       refine RD.q (.agg [.int .i64 c34, .bool (x906.toList == (bstr [112, 101, 114, 109, 105, 116]).toList), .int .u32 0, .int .i64 0, .int .i64 0, .int .i64 0]) ?_
       refine RD.step (v' := .ptr 1 0) (heap' := [(0, .box [.int .i64 0, .bool false, .int .u32 0, .int .i64 0, .int .i64 0, .int .i64 0]), (1, .box [.int .i64 0, .bool false, .int .u32 0, .int .i64 0, .int .i64 0, .int .i64 0])]) (next' := 2) rfl rfl rfl rfl rfl rfl rfl ?_
       refine RD.step0 (heap' := [(0, .box [.int .i64 0, .bool false, .int .u32 0, .int .i64 0, .int .i64 0, .int .i64 0]), (1, .box [.int .i64 c34, .bool (x906.toList == (bstr [112, 101, 114, 109, 105, 116]).toList), .int .u32 0, .int .i64 0, .int .i64 0, .int .i64 0])]) (next' := 2) rfl rfl rfl rfl rfl ?_
       refine RD.done rfl ?_
       refine WK.sr mixed ?_
       refine GX.m rfl ?_
       generalize hx936 : getI c15 2 = x936 at hR
       rcases x936 with _ | x936
       ·try dsimp only at hR
        cases hR
       try dsimp only at hR
       obtain ⟨hx9360, hx936j, hx936l, hx936⟩ := getI_some hx936
       refine GX.idxT (c := c_str) (x := x936) rfl rfl rfl hx9360 hx936 ?_
       refine GX.q (.str x936) ?_
       generalize hc63 : F47_crossroadsref03_Parse x936 = c63 at hR
       rcases c63 with _ | c63
       ·try dsimp only at hR
        cases hR
       try dsimp only at hR
       obtain ⟨c63a, c63b⟩ := c63; try dsimp only at hR
       refine GX.callp (r := .tup [.agg [.int .u32 c63a.A, .int .i64 c63a.N], .int .i64 c63b]) rfl rfl rfl (f47_ok x936 _ hc63) rfl rfl ?_
       refine GX.m rfl ?_
       refine GX.q (.agg [.int .u32 c63a.A, .int .i64 c63a.N]) ?_
       refine GX.q (.int .i64 c63b) ?_
       refine GX.step (v' := .ptr 2 0) (heap' := [(0, .box [.int .i64 0, .bool false, .int .u32 0, .int .i64 0, .int .i64 0, .int .i64 0]), (1, .box [.int .i64 c34, .bool (x906.toList == (bstr [112, 101, 114, 109, 105, 116]).toList), .int .u32 0, .int .i64 0, .int .i64 0, .int .i64 0]), (2, .box [.int .u32 0, .int .i64 0])]) (next' := 3) rfl rfl rfl rfl rfl rfl rfl ?_
       refine GX.step0 (heap' := [(0, .box [.int .i64 0, .bool false, .int .u32 0, .int .i64 0, .int .i64 0, .int .i64 0]), (1, .box [.int .i64 c34, .bool (x906.toList == (bstr [112, 101, 114, 109, 105, 116]).toList), .int .u32 0, .int .i64 0, .int .i64 0, .int .i64 0]), (2, .box (TPrefix.c c63a))]) (next' := 3) rfl rfl rfl rfl rfl ?_
       refine GX.m rfl ?_
       refine GX.done ?_
       refine WK.seq ?_
       refine WK.sr mixed ?_
       refine GX.m rfl ?_
       refine GX.q (.bool (decide (c63b = 3))) ?_
       refine GX.done ?_
       rcases bool_two (decide (c63b = 3)) with hb38 | hb38
       ·rw [hb38]; first | replace hR := cond_f hb38 hR | (try simp only [hb38, bb] at hR)
        refine WK.condF rfl ?_
        refine WK.skip ?_
        refine WK.sr mixed ?_
        refine GX.q (.agg (TPrefix.c c63a)) ?_
        refine GX.q (.ptr 1 2) ?_
        refine GX.step0 (heap' := [(0, .box [.int .i64 0, .bool false, .int .u32 0, .int .i64 0, .int .i64 0, .int .i64 0]), (1, .box [.int .i64 c34, .bool (x906.toList == (bstr [112, 101, 114, 109, 105, 116]).toList), .int .u32 c63a.A, .int .i64 c63a.N, .int .i64 0, .int .i64 0]), (2, .box (TPrefix.c c63a))]) (next' := 3) rfl rfl rfl rfl rfl ?_
        refine GX.done ?_
        refine WK.seq ?_
        refine WK.sr mixed ?_
        refine GX.m rfl ?_
        refine GX.done ?_
        refine WK.len (t := 4) rfl (by simp) (fun hln4_50 => ?_)
        rw [List.length_map] at hln4_50
        generalize hZ_50 : F17_crossroadsref07_Parse_l1 c15 100 3 (⟨c34, (x906.toList == (bstr [112, 101, 114, 109, 105, 116]).toList), c63a, 0, 0⟩ : TRule) = Z_50 at hR
        refine WK.forK (fun k s => ∃ (i8 : Int) (x5 : TRule), F17_crossroadsref07_Parse_l1 c15 k i8 x5 = Z_50 ∧ s = ⟨[(2, .ptr 0 0), (4, .ro 1 (c15.map c_str)), (5, .ptr 1 0), (7, .int .i64 c63b), (8, .int .i64 i8)], [(0, .box [.int .i64 0, .bool false, .int .u32 0, .int .i64 0, .int .i64 0, .int .i64 0]), (1, .box (TRule.c x5))], 2⟩) 100 ⟨⟨[(2, .ptr 0 0), (4, .ro 1 (c15.map c_str)), (5, .ptr 1 0), (7, .int .i64 c63b), (8, .int .i64 3)], [(0, .box [.int .i64 0, .bool false, .int .u32 0, .int .i64 0, .int .i64 0, .int .i64 0]), (1, .box (TRule.c (⟨c34, (x906.toList == (bstr [112, 101, 114, 109, 105, 116]).toList), c63a, 0, 0⟩ : TRule)))], 2⟩, Conv.keep [0, 1] [] [2, 4, 5, 7, 8] rfl rfl (viewE_cons rfl rfl (viewE_cons rfl rfl (viewE_cons rfl rfl (viewE_cons rfl rfl (viewE_cons rfl rfl viewE_nil))))) rfl rfl, 3, (⟨c34, (x906.toList == (bstr [112, 101, 114, 109, 105, 116]).toList), c63a, 0, 0⟩ : TRule), hZ_50, rfl⟩ ?_
        rintro k50 _ ⟨i8, x5, hL_50, rfl⟩ again_50 out_50 Q_50 hagain_50 hout_50 hQ_50
        rcases k50 with _ | f50
        ·unfold F17_crossroadsref07_Parse_l1 at hL_50
         try dsimp only at hL_50
         subst hL_50
         try dsimp only at hR
         cases hR
        unfold F17_crossroadsref07_Parse_l1 at hL_50; try dsimp only at hL_50
        refine WK.seq ?_
        refine WK.sr mixed ?_
        iterate 2 refine GX.m rfl ?_
        refine GX.pure (v' := .int .i64 (c15.length : Int)) rfl rfl rfl rfl (len_map _ _) ?_
        refine GX.q (.bool (decide (i8 < (c15.length : Int)))) ?_
        refine GX.done ?_
        rcases bool_two (decide (i8 < (c15.length : Int))) with hb51 | hb51
        ·rw [hb51]; try simp only [hb51, bb] at hL_50
         refine WK.condF rfl ?_
         refine WK.exit ?_
         refine QF.exit (hout_50 _ ?_)
         subst hL_50
         try dsimp only [cond_true, cond_false] at hR
         refine WK.seq ?_
         refine WK.sr mixed ?_
         refine GX.m rfl ?_
         refine GX.q (.bool (!decide (c63b = 0))) ?_
         refine GX.m rfl ?_
         rcases bool_two (decide (c63b = 0)) with hb52 | hb52
         ·rw [hb52]; first | replace hR := cond_f hb52 hR | (try simp only [hb52, bb] at hR)
          iterate 3 refine GX.skip rfl rfl ?_
          refine GX.q (.bool true) ?_
          refine GX.done ?_
          refine WK.condT rfl ?_
          refine WK.sr mixed ?_
          refine GX.q (.agg [.int .i64 0, .bool false, .int .u32 0, .int .i64 0, .int .i64 0, .int .i64 0]) ?_
          refine GX.step0 (heap' := [(0, .box [.int .i64 0, .bool false, .int .u32 0, .int .i64 0, .int .i64 0, .int .i64 0]), (1, .box (TRule.c x5))]) (next' := 2) rfl rfl rfl rfl rfl ?_
          refine GX.m rfl ?_
          refine GX.done ?_
          refine WK.ret ?_
          obtain rfl := Option.some.inj hR
          exact RetQ.fr [] (.inr rfl) rfl rfl rfl rfl
         ·rw [hb52]; first | replace hR := cond_t hb52 hR | (try simp only [hb52, bb] at hR)
          refine GX.q (.agg (TRule.c x5)) ?_
          generalize hc116 : F12_crossroadsref07_May x5 = c116 at hR
          try dsimp only at hR
          refine GX.callp (r := .bool c116) rfl rfl rfl (f12_ok x5 _ hc116) rfl rfl ?_
          iterate 2 refine GX.q (.bool (!c116)) ?_
          refine GX.done ?_
          rcases bool_two (c116) with hb53 | hb53
          ·rw [hb53]; first | replace hR := cond_f hb53 hR | (try simp only [hb53, bb] at hR)
           refine WK.condT rfl ?_
           refine WK.sr mixed ?_
           refine GX.q (.agg [.int .i64 0, .bool false, .int .u32 0, .int .i64 0, .int .i64 0, .int .i64 0]) ?_
           refine GX.step0 (heap' := [(0, .box [.int .i64 0, .bool false, .int .u32 0, .int .i64 0, .int .i64 0, .int .i64 0]), (1, .box (TRule.c x5))]) (next' := 2) rfl rfl rfl rfl rfl ?_
           refine GX.m rfl ?_
           refine GX.done ?_
           refine WK.ret ?_
           obtain rfl := Option.some.inj hR
           exact RetQ.fr [] (.inr rfl) rfl rfl rfl rfl
          ·rw [hb53]; first | replace hR := cond_t hb53 hR | (try simp only [hb53, bb] at hR)
           refine WK.condF rfl ?_
           refine WK.skip ?_
           refine WK.sr mixed ?_
           refine GX.q (.agg (TRule.c x5)) ?_
           refine GX.step0 (heap' := [(0, .box (TRule.c x5)), (1, .box (TRule.c x5))]) (next' := 2) rfl rfl rfl rfl rfl ?_
           refine GX.m rfl ?_
           refine GX.done ?_
           refine WK.ret ?_
           obtain rfl := Option.some.inj hR
           exact RetQ.fr [] (.inr rfl) rfl rfl rfl rfl
        ·rw [hb51]; try simp only [hb51, bb] at hL_50
         refine WK.condT rfl ?_
         refine WK.skip ?_
         refine WK.seq ?_
         refine WK.blockK (fun _ hK54 => ?_)
         refine WK.sr mixed ?_
         iterate 2 refine GX.m rfl ?_
         refine GX.q (.int .i64 (IntKind.i64.wrap (i8 + 1))) ?_
         generalize hx954 : getI c15 (IntKind.i64.wrap (i8 + 1)) = x954 at hL_50
         rcases x954 with _ | x954
         ·try dsimp only at hL_50
          subst hL_50
          try dsimp only at hR
          cases hR
         try dsimp only at hL_50
         obtain ⟨hx9540, hx954j, hx954l, hx954⟩ := getI_some hx954
         refine GX.idxT (c := c_str) (x := x954) rfl rfl rfl hx9540 hx954 ?_
         refine GX.q (.str x954) ?_
         generalize hc82 : F46_crossroadsref07_Number x954 = c82 at hL_50
         rcases c82 with _ | c82
         ·try dsimp only at hL_50
          subst hL_50
          try dsimp only at hR
          cases hR
         try dsimp only at hL_50
         try dsimp only at hL_50
         refine GX.callp (r := .int .i64 c82) rfl rfl rfl (f46_ok x954 _ hc82) rfl rfl ?_
         refine GX.m rfl ?_
         refine GX.done ?_
         refine WK.seq ?_
         refine WK.sr mixed ?_
         refine GX.m rfl ?_
         refine GX.q (.bool (decide (c82 = 0))) ?_
         refine GX.done ?_
         rcases bool_two (decide (c82 = 0)) with hb56 | hb56
         ·rw [hb56]; try simp only [hb56, bb] at hL_50
          refine WK.condF rfl ?_
          refine WK.skip ?_
          refine WK.sr mixed ?_
          iterate 2 refine GX.m rfl ?_
          generalize hx956 : getI c15 i8 = x956 at hL_50
          rcases x956 with _ | x956
          ·try dsimp only at hL_50
           subst hL_50
           try dsimp only at hR
           cases hR
          try dsimp only at hL_50
          obtain ⟨hx9560, hx956j, hx956l, hx956⟩ := getI_some hx956
          refine GX.idxT (c := c_str) (x := x956) rfl rfl rfl hx9560 hx956 ?_
          refine GX.q (.str x956) ?_
          refine GX.q (.bool (x956.toList == (bstr [103, 101]).toList)) ?_
          refine GX.m rfl ?_
          rcases bool_two ((x956.toList == (bstr [103, 101]).toList)) with hb58 | hb58
          ·rw [hb58]; try simp only [hb58, bb] at hL_50
           iterate 2 refine GX.skip rfl rfl ?_
           refine GX.q (.bool false) ?_
           refine GX.done ?_
           refine WK.condF rfl ?_
           refine WK.sr mixed ?_
           iterate 2 refine GX.m rfl ?_
           refine GX.idxT (c := c_str) (x := x956) rfl rfl rfl hx9560 hx956 ?_
           refine GX.q (.str x956) ?_
           refine GX.q (.bool (x956.toList == (bstr [108, 101]).toList)) ?_
           refine GX.m rfl ?_
           rcases bool_two ((x956.toList == (bstr [108, 101]).toList)) with hb59 | hb59
           ·rw [hb59]; try simp only [hb59, bb] at hL_50
            iterate 5 refine GX.skip rfl rfl ?_
            refine GX.q (.bool false) ?_
            refine GX.done ?_
            refine WK.condF rfl ?_
            refine WK.sr mixed ?_
            refine GX.q (.agg [.int .i64 0, .bool false, .int .u32 0, .int .i64 0, .int .i64 0, .int .i64 0]) ?_
            refine GX.step0 (heap' := [(0, .box [.int .i64 0, .bool false, .int .u32 0, .int .i64 0, .int .i64 0, .int .i64 0]), (1, .box (TRule.c x5))]) (next' := 2) rfl rfl rfl rfl rfl ?_
            refine GX.m rfl ?_
            refine GX.done ?_
            refine WK.ret ?_
            refine QF.ret ?_
            refine QF.ret (hQ_50 _ _ ?_)
            subst hL_50
            try dsimp only at hR
            obtain rfl := Option.some.inj hR
            exact RetQ.fr [] (.inr rfl) rfl rfl rfl rfl
           ·rw [hb59]; try simp only [hb59, bb] at hL_50
            iterate 2 refine GX.m rfl ?_
            refine GX.pure (v' := .int .i64 (c15.length : Int)) rfl rfl rfl rfl (len_map _ _) ?_
            refine GX.q (.int .i64 (IntKind.i64.wrap ((c15.length : Int) - 2))) ?_
            iterate 2 refine GX.q (.bool (decide (i8 = IntKind.i64.wrap ((c15.length : Int) - 2)))) ?_
            refine GX.done ?_
            rcases bool_two (decide (i8 = IntKind.i64.wrap ((c15.length : Int) - 2))) with hb60 | hb60
            ·rw [hb60]; try simp only [hb60, bb] at hL_50
             refine WK.condF rfl ?_
             refine WK.sr mixed ?_
             refine GX.q (.agg [.int .i64 0, .bool false, .int .u32 0, .int .i64 0, .int .i64 0, .int .i64 0]) ?_
             refine GX.step0 (heap' := [(0, .box [.int .i64 0, .bool false, .int .u32 0, .int .i64 0, .int .i64 0, .int .i64 0]), (1, .box (TRule.c x5))]) (next' := 2) rfl rfl rfl rfl rfl ?_
             refine GX.m rfl ?_
             refine GX.done ?_
             refine WK.ret ?_
             refine QF.ret ?_
             refine QF.ret (hQ_50 _ _ ?_)
             subst hL_50
             try dsimp only at hR
             obtain rfl := Option.some.inj hR
             exact RetQ.fr [] (.inr rfl) rfl rfl rfl rfl
            ·rw [hb60]; try simp only [hb60, bb] at hL_50
             refine WK.condT rfl ?_
             refine WK.regx mixed ?_
             refine GX.m rfl ?_
             refine GX.q (.ptr 1 5) ?_
             refine GX.step0 (heap' := [(0, .box [.int .i64 0, .bool false, .int .u32 0, .int .i64 0, .int .i64 0, .int .i64 0]), (1, .box [.int .i64 x5.Seq, .bool x5.Permit, .int .u32 x5.P.A, .int .i64 x5.P.N, .int .i64 x5.Ge, .int .i64 c82])]) (next' := 2) rfl rfl rfl rfl rfl ?_
             refine GX.done ?_
             refine WK.nil (QF.normal (hK54 _ ?_))
             refine WK.regx mixed ?_
             refine GX.m rfl ?_
             refine GX.q (.int .i64 (IntKind.i64.wrap (i8 + 2))) ?_
             refine GX.m rfl ?_
             refine GX.done ?_
             refine WK.nil (QF.normal ?_)
             exact hagain_50 _ f50 ⟨[(2, .ptr 0 0), (4, .ro 1 (c15.map c_str)), (5, .ptr 1 0), (7, .int .i64 c63b), (8, .int .i64 (IntKind.i64.wrap (i8 + 2)))], [(0, .box [.int .i64 0, .bool false, .int .u32 0, .int .i64 0, .int .i64 0, .int .i64 0]), (1, .box (TRule.c (⟨x5.Seq, x5.Permit, x5.P, x5.Ge, c82⟩ : TRule)))], 2⟩ (Nat.lt_succ_self _) (Conv.keep [0, 1] [] [2, 4, 5, 7, 8] rfl rfl (viewE_cons rfl rfl (viewE_cons rfl rfl (viewE_cons rfl rfl (viewE_cons rfl rfl (viewE_cons rfl rfl viewE_nil))))) rfl rfl) ⟨(IntKind.i64.wrap (i8 + 2)), (⟨x5.Seq, x5.Permit, x5.P, x5.Ge, c82⟩ : TRule), hL_50, rfl⟩
          ·rw [hb58]; try simp only [hb58, bb] at hL_50
           refine GX.m rfl ?_
           iterate 2 refine GX.q (.bool (decide (i8 = 3))) ?_
           refine GX.done ?_
           rcases bool_two (decide (i8 = 3)) with hb61 | hb61
           ·rw [hb61]; try simp only [hb61, bb] at hL_50
            refine WK.condF rfl ?_
            refine WK.sr mixed ?_
            iterate 2 refine GX.m rfl ?_
            refine GX.idxT (c := c_str) (x := x956) rfl rfl rfl hx9560 hx956 ?_
            refine GX.q (.str x956) ?_
            refine GX.q (.bool (x956.toList == (bstr [108, 101]).toList)) ?_
            refine GX.m rfl ?_
            rcases bool_two ((x956.toList == (bstr [108, 101]).toList)) with hb62 | hb62
            ·rw [hb62]; try simp only [hb62, bb] at hL_50
             iterate 5 refine GX.skip rfl rfl ?_
             refine GX.q (.bool false) ?_
             refine GX.done ?_
             refine WK.condF rfl ?_
             refine WK.sr mixed ?_
             refine GX.q (.agg [.int .i64 0, .bool false, .int .u32 0, .int .i64 0, .int .i64 0, .int .i64 0]) ?_
             refine GX.step0 (heap' := [(0, .box [.int .i64 0, .bool false, .int .u32 0, .int .i64 0, .int .i64 0, .int .i64 0]), (1, .box (TRule.c x5))]) (next' := 2) rfl rfl rfl rfl rfl ?_
             refine GX.m rfl ?_
             refine GX.done ?_
             refine WK.ret ?_
             refine QF.ret ?_
             refine QF.ret (hQ_50 _ _ ?_)
             subst hL_50
             try dsimp only at hR
             obtain rfl := Option.some.inj hR
             exact RetQ.fr [] (.inr rfl) rfl rfl rfl rfl
            ·rw [hb62]; try simp only [hb62, bb] at hL_50
             iterate 2 refine GX.m rfl ?_
             refine GX.pure (v' := .int .i64 (c15.length : Int)) rfl rfl rfl rfl (len_map _ _) ?_
             refine GX.q (.int .i64 (IntKind.i64.wrap ((c15.length : Int) - 2))) ?_
             iterate 2 refine GX.q (.bool (decide (i8 = IntKind.i64.wrap ((c15.length : Int) - 2)))) ?_
             refine GX.done ?_
             rcases bool_two (decide (i8 = IntKind.i64.wrap ((c15.length : Int) - 2))) with hb63 | hb63
             ·rw [hb63]; try simp only [hb63, bb] at hL_50
              refine WK.condF rfl ?_
              refine WK.sr mixed ?_
              refine GX.q (.agg [.int .i64 0, .bool false, .int .u32 0, .int .i64 0, .int .i64 0, .int .i64 0]) ?_
              refine GX.step0 (heap' := [(0, .box [.int .i64 0, .bool false, .int .u32 0, .int .i64 0, .int .i64 0, .int .i64 0]), (1, .box (TRule.c x5))]) (next' := 2) rfl rfl rfl rfl rfl ?_
              refine GX.m rfl ?_
              refine GX.done ?_
              refine WK.ret ?_
              refine QF.ret ?_
              refine QF.ret (hQ_50 _ _ ?_)
              subst hL_50
              try dsimp only at hR
              obtain rfl := Option.some.inj hR
              exact RetQ.fr [] (.inr rfl) rfl rfl rfl rfl
             ·rw [hb63]; try simp only [hb63, bb] at hL_50
              refine WK.condT rfl ?_
              refine WK.regx mixed ?_
              refine GX.m rfl ?_
              refine GX.q (.ptr 1 5) ?_
              refine GX.step0 (heap' := [(0, .box [.int .i64 0, .bool false, .int .u32 0, .int .i64 0, .int .i64 0, .int .i64 0]), (1, .box [.int .i64 x5.Seq, .bool x5.Permit, .int .u32 x5.P.A, .int .i64 x5.P.N, .int .i64 x5.Ge, .int .i64 c82])]) (next' := 2) rfl rfl rfl rfl rfl ?_
              refine GX.done ?_
              refine WK.nil (QF.normal (hK54 _ ?_))
              refine WK.regx mixed ?_
              refine GX.m rfl ?_
              refine GX.q (.int .i64 (IntKind.i64.wrap (i8 + 2))) ?_
              refine GX.m rfl ?_
              refine GX.done ?_
              refine WK.nil (QF.normal ?_)
              exact hagain_50 _ f50 ⟨[(2, .ptr 0 0), (4, .ro 1 (c15.map c_str)), (5, .ptr 1 0), (7, .int .i64 c63b), (8, .int .i64 (IntKind.i64.wrap (i8 + 2)))], [(0, .box [.int .i64 0, .bool false, .int .u32 0, .int .i64 0, .int .i64 0, .int .i64 0]), (1, .box (TRule.c (⟨x5.Seq, x5.Permit, x5.P, x5.Ge, c82⟩ : TRule)))], 2⟩ (Nat.lt_succ_self _) (Conv.keep [0, 1] [] [2, 4, 5, 7, 8] rfl rfl (viewE_cons rfl rfl (viewE_cons rfl rfl (viewE_cons rfl rfl (viewE_cons rfl rfl (viewE_cons rfl rfl viewE_nil))))) rfl rfl) ⟨(IntKind.i64.wrap (i8 + 2)), (⟨x5.Seq, x5.Permit, x5.P, x5.Ge, c82⟩ : TRule), hL_50, rfl⟩
           ·rw [hb61]; try simp only [hb61, bb] at hL_50
            refine WK.condT rfl ?_
            refine WK.regx mixed ?_
            refine GX.m rfl ?_
            refine GX.q (.ptr 1 4) ?_
            refine GX.step0 (heap' := [(0, .box [.int .i64 0, .bool false, .int .u32 0, .int .i64 0, .int .i64 0, .int .i64 0]), (1, .box [.int .i64 x5.Seq, .bool x5.Permit, .int .u32 x5.P.A, .int .i64 x5.P.N, .int .i64 c82, .int .i64 x5.Le])]) (next' := 2) rfl rfl rfl rfl rfl ?_
            refine GX.done ?_
            refine WK.nil (QF.normal (hK54 _ ?_))
            refine WK.regx mixed ?_
            refine GX.m rfl ?_
            refine GX.q (.int .i64 (IntKind.i64.wrap (i8 + 2))) ?_
            refine GX.m rfl ?_
            refine GX.done ?_
            refine WK.nil (QF.normal ?_)
            exact hagain_50 _ f50 ⟨[(2, .ptr 0 0), (4, .ro 1 (c15.map c_str)), (5, .ptr 1 0), (7, .int .i64 c63b), (8, .int .i64 (IntKind.i64.wrap (i8 + 2)))], [(0, .box [.int .i64 0, .bool false, .int .u32 0, .int .i64 0, .int .i64 0, .int .i64 0]), (1, .box (TRule.c (⟨x5.Seq, x5.Permit, x5.P, c82, x5.Le⟩ : TRule)))], 2⟩ (Nat.lt_succ_self _) (Conv.keep [0, 1] [] [2, 4, 5, 7, 8] rfl rfl (viewE_cons rfl rfl (viewE_cons rfl rfl (viewE_cons rfl rfl (viewE_cons rfl rfl (viewE_cons rfl rfl viewE_nil))))) rfl rfl) ⟨(IntKind.i64.wrap (i8 + 2)), (⟨x5.Seq, x5.Permit, x5.P, c82, x5.Le⟩ : TRule), hL_50, rfl⟩
         ·rw [hb56]; try simp only [hb56, bb] at hL_50
          refine WK.condT rfl ?_
          refine WK.sr mixed ?_
          refine GX.q (.agg [.int .i64 0, .bool false, .int .u32 0, .int .i64 0, .int .i64 0, .int .i64 0]) ?_
          refine GX.step0 (heap' := [(0, .box [.int .i64 0, .bool false, .int .u32 0, .int .i64 0, .int .i64 0, .int .i64 0]), (1, .box (TRule.c x5))]) (next' := 2) rfl rfl rfl rfl rfl ?_
          refine GX.m rfl ?_
          refine GX.done ?_
          refine WK.ret ?_
          refine QF.ret ?_
          refine QF.ret (hQ_50 _ _ ?_)
          subst hL_50
          try dsimp only at hR
          obtain rfl := Option.some.inj hR
          exact RetQ.fr [] (.inr rfl) rfl rfl rfl rfl
       ·rw [hb38]; first | replace hR := cond_t hb38 hR | (try simp only [hb38, bb] at hR)
        refine WK.condT rfl ?_
        refine WK.sr mixed ?_
        refine GX.q (.agg [.int .i64 0, .bool false, .int .u32 0, .int .i64 0, .int .i64 0, .int .i64 0]) ?_
        refine GX.step0 (heap' := [(0, .box [.int .i64 0, .bool false, .int .u32 0, .int .i64 0, .int .i64 0, .int .i64 0]), (1, .box [.int .i64 c34, .bool (x906.toList == (bstr [112, 101, 114, 109, 105, 116]).toList), .int .u32 0, .int .i64 0, .int .i64 0, .int .i64 0]), (2, .box (TPrefix.c c63a))]) (next' := 3) rfl rfl rfl rfl rfl ?_
        refine GX.m rfl ?_
        refine GX.done ?_
        refine WK.ret ?_
        obtain rfl := Option.some.inj hR
        exact RetQ.fr [] (.inr rfl) rfl rfl rfl rfl
     ·rw [hb6]; first | replace hR := cond_t hb6 hR | (try simp only [hb6, bb] at hR)
      iterate 10 refine GX.skip rfl rfl ?_
      refine GX.q (.bool true) ?_
      refine GX.done ?_
      refine WK.condT rfl ?_
      refine WK.sr mixed ?_
      refine GX.q (.agg [.int .i64 0, .bool false, .int .u32 0, .int .i64 0, .int .i64 0, .int .i64 0]) ?_
      refine GX.step0 (heap' := [(0, .box [.int .i64 0, .bool false, .int .u32 0, .int .i64 0, .int .i64 0, .int .i64 0])]) (next' := 1) rfl rfl rfl rfl rfl ?_
      refine GX.m rfl ?_
      refine GX.done ?_
      refine WK.ret ?_
      obtain rfl := Option.some.inj hR
      exact RetQ.fr [] (.inr rfl) rfl rfl rfl rfl
    ·rw [hb4]; first | replace hR := cond_t hb4 hR | (try simp only [hb4, bb] at hR)
     iterate 5 refine GX.skip rfl rfl ?_
     refine GX.q (.bool true) ?_
     refine GX.m rfl ?_
     iterate 10 refine GX.skip rfl rfl ?_
     refine GX.q (.bool true) ?_
     refine GX.done ?_
     refine WK.condT rfl ?_
     refine WK.sr mixed ?_
     refine GX.q (.agg [.int .i64 0, .bool false, .int .u32 0, .int .i64 0, .int .i64 0, .int .i64 0]) ?_
     refine GX.step0 (heap' := [(0, .box [.int .i64 0, .bool false, .int .u32 0, .int .i64 0, .int .i64 0, .int .i64 0])]) (next' := 1) rfl rfl rfl rfl rfl ?_
     refine GX.m rfl ?_
     refine GX.done ?_
     refine WK.ret ?_
     obtain rfl := Option.some.inj hR
     exact RetQ.fr [] (.inr rfl) rfl rfl rfl rfl
   ·rw [hb3]; first | replace hR := cond_t hb3 hR | (try simp only [hb3, bb] at hR)
    iterate 4 refine GX.skip rfl rfl ?_
    refine GX.q (.bool true) ?_
    refine GX.m rfl ?_
    iterate 5 refine GX.skip rfl rfl ?_
    refine GX.q (.bool true) ?_
    refine GX.m rfl ?_
    iterate 10 refine GX.skip rfl rfl ?_
    refine GX.q (.bool true) ?_
    refine GX.done ?_
    refine WK.condT rfl ?_
    refine WK.sr mixed ?_
    refine GX.q (.agg [.int .i64 0, .bool false, .int .u32 0, .int .i64 0, .int .i64 0, .int .i64 0]) ?_
    refine GX.step0 (heap' := [(0, .box [.int .i64 0, .bool false, .int .u32 0, .int .i64 0, .int .i64 0, .int .i64 0])]) (next' := 1) rfl rfl rfl rfl rfl ?_
    refine GX.m rfl ?_
    refine GX.done ?_
    refine WK.ret ?_
    obtain rfl := Option.some.inj hR
    exact RetQ.fr [] (.inr rfl) rfl rfl rfl rfl
  ·rw [hb2]; first | replace hR := cond_t hb2 hR | (try simp only [hb2, bb] at hR)
   iterate 3 refine GX.skip rfl rfl ?_
   refine GX.q (.bool true) ?_
   refine GX.m rfl ?_
   iterate 4 refine GX.skip rfl rfl ?_
   refine GX.q (.bool true) ?_
   refine GX.m rfl ?_
   iterate 5 refine GX.skip rfl rfl ?_
   refine GX.q (.bool true) ?_
   refine GX.m rfl ?_
   iterate 10 refine GX.skip rfl rfl ?_
   refine GX.q (.bool true) ?_
   refine GX.done ?_
   refine WK.condT rfl ?_
   refine WK.sr mixed ?_
   refine GX.q (.agg [.int .i64 0, .bool false, .int .u32 0, .int .i64 0, .int .i64 0, .int .i64 0]) ?_
   refine GX.step0 (heap' := [(0, .box [.int .i64 0, .bool false, .int .u32 0, .int .i64 0, .int .i64 0, .int .i64 0])]) (next' := 1) rfl rfl rfl rfl rfl ?_
   refine GX.m rfl ?_
   refine GX.done ?_
   refine WK.ret ?_
   obtain rfl := Option.some.inj hR
   exact RetQ.fr [] (.inr rfl) rfl rfl rfl rfl
 ·rw [hb1]; first | replace hR := cond_t hb1 hR | (try simp only [hb1, bb] at hR)
  refine WK.condT rfl ?_
  refine WK.sr mixed ?_
  refine GX.q (.agg [.int .i64 0, .bool false, .int .u32 0, .int .i64 0, .int .i64 0, .int .i64 0]) ?_
  refine GX.step0 (heap' := [(0, .box [.int .i64 0, .bool false, .int .u32 0, .int .i64 0, .int .i64 0, .int .i64 0])]) (next' := 1) rfl rfl rfl rfl rfl ?_
  refine GX.m rfl ?_
  refine GX.done ?_
  refine WK.ret ?_
  obtain rfl := Option.some.inj hR
  exact RetQ.fr [] (.inr rfl) rfl rfl rfl rfl

theorem f4_ok (s0 : ByteArray) (R : Bool) (hR : F4_crossroadslaw07_PlistParse s0 = some R) : FnOk Tryz.prog 4 [.str s0] [] 0 (.bool R) [] 0 := by
 refine FnOk.wk i4 rfl rfl ?_
 unfold F4_crossroadslaw07_PlistParse at hR
 try dsimp only at hR
 change WK _ _ _ [ac4] _ ⟨[(0, .str s0)], [], 0⟩
 unfold ac4
 refine WK.sr mixed ?_
 refine GX.m rfl ?_
 refine GX.done ?_
 refine WK.seq ?_
 refine WK.sr mixed ?_
 refine GX.m rfl ?_
 refine GX.q (.int .i64 (s0.size : Int)) ?_
 refine GX.q (.bool (decide (100 < (s0.size : Int)))) ?_
 refine GX.done ?_
 rcases bool_two (decide (100 < (s0.size : Int))) with hb1 | hb1
 ·rw [hb1]; first | replace hR := cond_f hb1 hR | (try simp only [hb1, bb] at hR)
  refine WK.condF rfl ?_
  refine WK.skip ?_
  refine WK.sr mixed ?_
  refine GX.m rfl ?_
  generalize hc13 : F8_plist_Parse s0 = c13 at hR
  rcases c13 with _ | c13
  ·try dsimp only at hR
   cases hR
  try dsimp only at hR
  obtain ⟨c13a, c13b⟩ := c13; try dsimp only at hR
  refine GX.callp (r := .tup [.agg [.int .i64 c13a.Seq, .bool c13a.Permit, .int .u32 c13a.P.A, .int .i64 c13a.P.N, .int .i64 c13a.Ge, .int .i64 c13a.Le], .int .i64 c13b]) rfl rfl rfl (f8_ok s0 _ hc13) rfl rfl ?_
  refine GX.m rfl ?_
  refine GX.q (.agg [.int .i64 c13a.Seq, .bool c13a.Permit, .int .u32 c13a.P.A, .int .i64 c13a.P.N, .int .i64 c13a.Ge, .int .i64 c13a.Le]) ?_
  refine GX.q (.int .i64 c13b) ?_
  refine GX.step (v' := .ptr 0 0) (heap' := [(0, .box [.int .i64 0, .bool false, .int .u32 0, .int .i64 0, .int .i64 0, .int .i64 0])]) (next' := 1) rfl rfl rfl rfl rfl rfl rfl ?_
  refine GX.step0 (heap' := [(0, .box (TRule.c c13a))]) (next' := 1) rfl rfl rfl rfl rfl ?_
  refine GX.m rfl ?_
  refine GX.done ?_
  refine WK.sr mixed ?_
  refine GX.m rfl ?_
  generalize hc18 : F17_crossroadsref07_Parse s0 = c18 at hR
  rcases c18 with _ | c18
  ·try dsimp only at hR
   cases hR
  try dsimp only at hR
  obtain ⟨c18a, c18b⟩ := c18; try dsimp only at hR
  refine GX.callp (r := .tup [.agg [.int .i64 c18a.Seq, .bool c18a.Permit, .int .u32 c18a.P.A, .int .i64 c18a.P.N, .int .i64 c18a.Ge, .int .i64 c18a.Le], .int .i64 c18b]) rfl rfl rfl (f17_ok s0 _ hc18) rfl rfl ?_
  refine GX.m rfl ?_
  refine GX.q (.agg [.int .i64 c18a.Seq, .bool c18a.Permit, .int .u32 c18a.P.A, .int .i64 c18a.P.N, .int .i64 c18a.Ge, .int .i64 c18a.Le]) ?_
  refine GX.q (.int .i64 c18b) ?_
  refine GX.step (v' := .ptr 1 0) (heap' := [(0, .box (TRule.c c13a)), (1, .box [.int .i64 0, .bool false, .int .u32 0, .int .i64 0, .int .i64 0, .int .i64 0])]) (next' := 2) rfl rfl rfl rfl rfl rfl rfl ?_
  refine GX.step0 (heap' := [(0, .box (TRule.c c13a)), (1, .box (TRule.c c18a))]) (next' := 2) rfl rfl rfl rfl rfl ?_
  refine GX.m rfl ?_
  refine GX.done ?_
  refine WK.seq ?_
  refine WK.drawn mixed ?_
  generalize hc21 : F11_crossroadslaw07_alive = c21 at hR
  rcases c21 with _ | c21
  ·try dsimp only at hR
   cases hR
  try dsimp only at hR
  try dsimp only at hR
  refine RD.callp (r := .bool c21) rfl rfl rfl (f11_ok  _ hc21) rfl rfl ?_
  refine RD.m rfl ?_
  rcases bool_two (c21) with hb2 | hb2
  ·rw [hb2]; first | replace hR := cond_f hb2 hR | (try simp only [hb2, bb] at hR)
   iterate 4 refine RD.skip rfl rfl ?_
   refine RD.q (.bool false) ?_
   refine RD.m rfl ?_
   iterate 3 refine RD.skip rfl rfl ?_
   refine RD.q (.bool false) ?_
   refine RD.m rfl ?_
   iterate 8 refine RD.skip rfl rfl ?_
   refine RD.q (.bool false) ?_
   refine RD.m rfl ?_
   refine RD.done rfl ?_
   refine WK.ret ?_
   obtain rfl := Option.some.inj hR
   exact RetQ.fr [] (.inr rfl) rfl rfl rfl rfl
  ·rw [hb2]; first | replace hR := cond_t hb2 hR | (try simp only [hb2, bb] at hR)
   refine RD.q (.agg (TRule.c c13a)) ?_
   generalize hc24 : F13_crossroadslaw07_plain c13a = c24 at hR
   try dsimp only at hR
   refine RD.callp (r := .agg [.int .i64 c24.Seq, .bool c24.Permit, .int .u32 c24.P.A, .int .i64 c24.P.N, .int .i64 c24.Ge, .int .i64 c24.Le]) rfl rfl rfl (f13_ok c13a _ hc24) rfl rfl ?_
   refine RD.q (.agg (TRule.c c18a)) ?_
   iterate 2 refine RD.q (.bool (decide (c24.Seq = c18a.Seq) && ((c24.Permit == c18a.Permit) && (decide (c24.P.A = c18a.P.A) && (decide (c24.P.N = c18a.P.N) && (decide (c24.Ge = c18a.Ge) && (decide (c24.Le = c18a.Le) && true))))))) ?_
   refine RD.m rfl ?_
   rcases bool_two ((decide (c24.Seq = c18a.Seq) && ((c24.Permit == c18a.Permit) && (decide (c24.P.A = c18a.P.A) && (decide (c24.P.N = c18a.P.N) && (decide (c24.Ge = c18a.Ge) && (decide (c24.Le = c18a.Le) && true))))))) with hb3 | hb3
   ·rw [hb3]; try simp only [hb3, bb] at hR
    iterate 3 refine RD.skip rfl rfl ?_
    refine RD.q (.bool false) ?_
    refine RD.m rfl ?_
    iterate 8 refine RD.skip rfl rfl ?_
    refine RD.q (.bool false) ?_
    refine RD.m rfl ?_
    refine RD.done rfl ?_
    refine WK.ret ?_
    obtain rfl := Option.some.inj hR
    exact RetQ.fr [] (.inr rfl) rfl rfl rfl rfl
   ·rw [hb3]; try simp only [hb3, bb] at hR
    iterate 2 refine RD.m rfl ?_
    iterate 2 refine RD.q (.bool (decide (c13b = c18b))) ?_
    refine RD.m rfl ?_
    rcases bool_two (decide (c13b = c18b)) with hb4 | hb4
    ·rw [hb4]; first | replace hR := cond_f hb4 hR | (try simp only [hb4, bb] at hR)
     iterate 8 refine RD.skip rfl rfl ?_
     refine RD.q (.bool false) ?_
     refine RD.m rfl ?_
     refine RD.done rfl ?_
     refine WK.ret ?_
     obtain rfl := Option.some.inj hR
     exact RetQ.fr [] (.inr rfl) rfl rfl rfl rfl
    ·rw [hb4]; first | replace hR := cond_t hb4 hR | (try simp only [hb4, bb] at hR)
     refine RD.m rfl ?_
     refine RD.q (.bool (!decide (c13b = 0))) ?_
     refine RD.m rfl ?_
     rcases bool_two (decide (c13b = 0)) with hb5 | hb5
     ·rw [hb5]; first | replace hR := cond_f hb5 hR | (try simp only [hb5, bb] at hR)
      iterate 4 refine RD.skip rfl rfl ?_
      iterate 2 refine RD.q (.bool true) ?_
      refine RD.m rfl ?_
      refine RD.done rfl ?_
      refine WK.ret ?_
      obtain rfl := Option.some.inj hR
      exact RetQ.fr [] (.inr rfl) rfl rfl rfl rfl
     ·rw [hb5]; first | replace hR := cond_t hb5 hR | (try simp only [hb5, bb] at hR)
      refine RD.q (.agg (TRule.c c13a)) ?_
      generalize hc38 : F9_plist_Text c13a = c38 at hR
      rcases c38 with _ | c38
      ·try dsimp only at hR
       cases hR
      try dsimp only at hR
      try dsimp only at hR
      refine RD.callp (r := .str c38) rfl rfl rfl (f9_ok c13a _ hc38) rfl rfl ?_
      refine RD.m rfl ?_
      iterate 3 refine RD.q (.bool (c38.toList == s0.toList)) ?_
      refine RD.m rfl ?_
      refine RD.done rfl ?_
      refine WK.ret ?_
      obtain rfl := Option.some.inj hR
      exact RetQ.fr [] (.inr rfl) rfl rfl rfl rfl
 ·rw [hb1]; first | replace hR := cond_t hb1 hR | (try simp only [hb1, bb] at hR)
  refine WK.condT rfl ?_
  refine WK.sr mixed ?_
  generalize hc10 : F11_crossroadslaw07_alive = c10 at hR
  rcases c10 with _ | c10
  ·try dsimp only at hR
   cases hR
  try dsimp only at hR
  try dsimp only at hR
  refine GX.callp (r := .bool c10) rfl rfl rfl (f11_ok  _ hc10) rfl rfl ?_
  refine GX.m rfl ?_
  refine GX.done ?_
  refine WK.ret ?_
  obtain rfl := Option.some.inj hR
  exact RetQ.fr [] (.inr rfl) rfl rfl rfl rfl

end Go.Proofs.YtjcpkgnlnmajjaaGreatDoor.Abs
