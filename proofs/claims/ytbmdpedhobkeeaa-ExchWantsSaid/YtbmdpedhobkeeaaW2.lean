/- The functions walked: each computes its Lean function (printed by this work's own program gen.py). -/
import Derived.Test.YtbmdpedhobkeeaaSo
import Derived.Test.YtbmdpedhobkeeaaW1
set_option linter.unusedVariables false
set_option linter.unusedSimpArgs false
set_option maxRecDepth 10000
set_option maxHeartbeats 4000000
namespace Go.Proofs.Ytbmdpedhobkeeaa.Abs
open Go

theorem f54_ok (b0 : List Int) (R : TSummaryBody × Int) (hR : F54_crossroadsref12_ReadSummary b0 = some R) : FnOk Try.prog 54 [.ro 1 (b0.map c_u8)] [] 0 (.tup [.agg (TSummaryBody.c R.1), .int .i64 R.2]) [] 0 := by
 refine FnOk.wk i54 rfl rfl ?_
 unfold F54_crossroadsref12_ReadSummary at hR
 try dsimp only at hR
 change WK _ _ _ [ac54] _ ⟨[(0, .ro 1 (b0.map c_u8))], [], 0⟩
 unfold ac54
 refine WK.sr mixed ?_
 refine GX.step (v' := .ptr 0 0) (heap' := [(0, .box [.int .u32 0, .int .i64 0])]) (next' := 1) rfl rfl rfl rfl rfl rfl rfl ?_
 refine GX.m rfl ?_
 refine GX.done ?_
 refine WK.seq ?_
 refine WK.sr mixed ?_
 refine GX.m rfl ?_
 refine GX.pure (v' := .int .i64 (b0.length : Int)) rfl rfl rfl rfl (len_map _ _) ?_
 refine GX.q (.bool (decide ((b0.length : Int) < 8))) ?_
 refine GX.done ?_
 rcases bool_two (decide ((b0.length : Int) < 8)) with hb1 | hb1
 ·rw [hb1]; first | replace hR := cond_f hb1 hR | (try simp only [hb1, bb] at hR)
  refine WK.condF rfl ?_
  refine WK.skip ?_
  refine WK.seq ?_
  refine WK.sr mixed ?_
  refine GX.m rfl ?_
  refine GX.pure (v' := .int .i64 (b0.length : Int)) rfl rfl rfl rfl (len_map _ _) ?_
  refine GX.q (.bool (decide (8 < (b0.length : Int)))) ?_
  refine GX.m rfl ?_
  rcases bool_two (decide (8 < (b0.length : Int))) with hb2 | hb2
  ·rw [hb2]; first | replace hR := cond_f hb2 hR | (try simp only [hb2, bb] at hR)
   refine GX.m rfl ?_
   generalize hx902 : getI b0 4 = x902 at hR
   rcases x902 with _ | x902
   ·try dsimp only at hR
    cases hR
   try dsimp only at hR
   obtain ⟨hx9020, hx902j, hx902l, hx902⟩ := getI_some hx902
   refine GX.idxT (c := c_u8) (x := x902) rfl rfl rfl hx9020 hx902 ?_
   refine GX.q (.int .u8 x902) ?_
   iterate 2 refine GX.q (.bool (!decide (x902 = 0))) ?_
   refine GX.done ?_
   rcases bool_two (decide (x902 = 0)) with hb4 | hb4
   ·rw [hb4]; first | replace hR := cond_f hb4 hR | (try simp only [hb4, bb] at hR)
    refine WK.condT rfl ?_
    refine WK.sr mixed ?_
    refine GX.q (.agg [.int .u32 0, .int .i64 0]) ?_
    refine GX.step0 (heap' := [(0, .box [.int .u32 0, .int .i64 0])]) (next' := 1) rfl rfl rfl rfl rfl ?_
    refine GX.m rfl ?_
    refine GX.done ?_
    refine WK.ret ?_
    obtain rfl := Option.some.inj hR
    exact RetQ.fr [] (.inr rfl) rfl rfl rfl rfl
   ·rw [hb4]; first | replace hR := cond_t hb4 hR | (try simp only [hb4, bb] at hR)
    refine WK.condF rfl ?_
    refine WK.skip ?_
    refine WK.sr mixed ?_
    refine GX.m rfl ?_
    generalize hc22 : F70_crossroadsref01_Rows b0 4 = c22 at hR
    rcases c22 with _ | c22
    ·try dsimp only at hR
     cases hR
    try dsimp only at hR
    obtain ⟨c22a, c22b⟩ := c22; try dsimp only at hR
    refine GX.callp (r := .tup [.ro 1 (c22a.map c_u32), .int .i64 c22b]) rfl rfl rfl (f70_ok b0 4 _ hc22) rfl rfl ?_
    refine GX.m rfl ?_
    refine GX.q (.ro 1 (c22a.map c_u32)) ?_
    refine GX.q (.int .i64 c22b) ?_
    iterate 2 refine GX.m rfl ?_
    refine GX.done ?_
    refine WK.seq ?_
    refine WK.sr mixed ?_
    refine GX.m rfl ?_
    generalize hx904 : getI c22a 0 = x904 at hR
    rcases x904 with _ | x904
    ·try dsimp only at hR
     cases hR
    try dsimp only at hR
    obtain ⟨hx9040, hx904j, hx904l, hx904⟩ := getI_some hx904
    refine GX.idxT (c := c_u32) (x := x904) rfl rfl rfl hx9040 hx904 ?_
    refine GX.q (.int .u32 x904) ?_
    generalize hc28 : F72_crossroadsref12_isMask x904 = c28 at hR
    try dsimp only at hR
    refine GX.callp (r := .bool c28) rfl rfl rfl (f72_ok x904 _ hc28) rfl rfl ?_
    refine GX.q (.bool (!c28)) ?_
    refine GX.done ?_
    rcases bool_two (c28) with hb6 | hb6
    ·rw [hb6]; first | replace hR := cond_f hb6 hR | (try simp only [hb6, bb] at hR)
     refine WK.condT rfl ?_
     refine WK.sr mixed ?_
     refine GX.q (.agg [.int .u32 0, .int .i64 0]) ?_
     refine GX.step0 (heap' := [(0, .box [.int .u32 0, .int .i64 0])]) (next' := 1) rfl rfl rfl rfl rfl ?_
     refine GX.m rfl ?_
     refine GX.done ?_
     refine WK.ret ?_
     obtain rfl := Option.some.inj hR
     exact RetQ.fr [] (.inr rfl) rfl rfl rfl rfl
    ·rw [hb6]; first | replace hR := cond_t hb6 hR | (try simp only [hb6, bb] at hR)
     refine WK.condF rfl ?_
     refine WK.skip ?_
     refine WK.seq ?_
     refine WK.drawn mixed ?_
     refine RD.m rfl ?_
     refine RD.idxT (c := c_u32) (x := x904) rfl rfl rfl hx9040 hx904 ?_
     refine RD.q (.int .u32 x904) ?_
     refine RD.m rfl ?_
     generalize hx906 : getI c22a 1 = x906 at hR
     rcases x906 with _ | x906
     ·try dsimp only at hR
      cases hR
     try dsimp only at hR
     obtain ⟨hx9060, hx906j, hx906l, hx906⟩ := getI_some hx906
     refine RD.idxT (c := c_u32) (x := x906) rfl rfl rfl hx9060 hx906 ?_
     refine RD.q (.int .u32 x906) ?_
     refine RD.q (.int .i64 (IntKind.i64.wrap x906)) ?_
     refine RD.q (.agg [.int .u32 x904, .int .i64 (IntKind.i64.wrap x906)]) ?_
     refine RD.step0 (heap' := [(0, .box [.int .u32 x904, .int .i64 (IntKind.i64.wrap x906)])]) (next' := 1) rfl rfl rfl rfl rfl ?_
     refine RD.m rfl ?_
     refine RD.done rfl ?_
     refine WK.ret ?_
     obtain rfl := Option.some.inj hR
     exact RetQ.fr [] (.inr rfl) rfl rfl rfl rfl
  ·rw [hb2]; first | replace hR := cond_t hb2 hR | (try simp only [hb2, bb] at hR)
   iterate 4 refine GX.skip rfl rfl ?_
   refine GX.q (.bool true) ?_
   refine GX.done ?_
   refine WK.condT rfl ?_
   refine WK.sr mixed ?_
   refine GX.q (.agg [.int .u32 0, .int .i64 0]) ?_
   refine GX.step0 (heap' := [(0, .box [.int .u32 0, .int .i64 0])]) (next' := 1) rfl rfl rfl rfl rfl ?_
   refine GX.m rfl ?_
   refine GX.done ?_
   refine WK.ret ?_
   obtain rfl := Option.some.inj hR
   exact RetQ.fr [] (.inr rfl) rfl rfl rfl rfl
 ·rw [hb1]; first | replace hR := cond_t hb1 hR | (try simp only [hb1, bb] at hR)
  refine WK.condT rfl ?_
  refine WK.sr mixed ?_
  refine GX.q (.agg [.int .u32 0, .int .i64 0]) ?_
  refine GX.step0 (heap' := [(0, .box [.int .u32 0, .int .i64 0])]) (next' := 1) rfl rfl rfl rfl rfl ?_
  refine GX.m rfl ?_
  refine GX.done ?_
  refine WK.ret ?_
  obtain rfl := Option.some.inj hR
  exact RetQ.fr [] (.inr rfl) rfl rfl rfl rfl

theorem f55_ok (b0 : List Int) (R : TExternalBody × Int) (hR : F55_crossroadsref12_ReadExternal b0 = some R) : FnOk Try.prog 55 [.ro 1 (b0.map c_u8)] [] 0 (.tup [.agg (TExternalBody.c R.1), .int .i64 R.2]) [] 0 := by
 refine FnOk.wk i55 rfl rfl ?_
 unfold F55_crossroadsref12_ReadExternal at hR
 try dsimp only at hR
 change WK _ _ _ [ac55] _ ⟨[(0, .ro 1 (b0.map c_u8))], [], 0⟩
 unfold ac55
 refine WK.sr mixed ?_
 refine GX.step (v' := .ptr 0 0) (heap' := [(0, .box [.int .u32 0, .bool false, .int .i64 0, .int .u32 0, .int .u32 0])]) (next' := 1) rfl rfl rfl rfl rfl rfl rfl ?_
 refine GX.m rfl ?_
 refine GX.done ?_
 refine WK.seq ?_
 refine WK.sr mixed ?_
 refine GX.m rfl ?_
 refine GX.pure (v' := .int .i64 (b0.length : Int)) rfl rfl rfl rfl (len_map _ _) ?_
 refine GX.q (.bool (decide ((b0.length : Int) < 16))) ?_
 refine GX.done ?_
 rcases bool_two (decide ((b0.length : Int) < 16)) with hb1 | hb1
 ·rw [hb1]; first | replace hR := cond_f hb1 hR | (try simp only [hb1, bb] at hR)
  refine WK.condF rfl ?_
  refine WK.skip ?_
  refine WK.seq ?_
  refine WK.sr mixed ?_
  refine GX.m rfl ?_
  refine GX.pure (v' := .int .i64 (b0.length : Int)) rfl rfl rfl rfl (len_map _ _) ?_
  refine GX.q (.bool (decide (16 < (b0.length : Int)))) ?_
  refine GX.m rfl ?_
  rcases bool_two (decide (16 < (b0.length : Int))) with hb2 | hb2
  ·rw [hb2]; first | replace hR := cond_f hb2 hR | (try simp only [hb2, bb] at hR)
   refine GX.m rfl ?_
   generalize hx902 : getI b0 4 = x902 at hR
   rcases x902 with _ | x902
   ·try dsimp only at hR
    cases hR
   try dsimp only at hR
   obtain ⟨hx9020, hx902j, hx902l, hx902⟩ := getI_some hx902
   refine GX.idxT (c := c_u8) (x := x902) rfl rfl rfl hx9020 hx902 ?_
   refine GX.q (.int .u8 x902) ?_
   refine GX.q (.bool (!decide (x902 = 0))) ?_
   refine GX.m rfl ?_
   rcases bool_two (decide (x902 = 0)) with hb4 | hb4
   ·rw [hb4]; first | replace hR := cond_f hb4 hR | (try simp only [hb4, bb] at hR)
    refine GX.m rfl ?_
    refine GX.idxT (c := c_u8) (x := x902) rfl rfl rfl hx9020 hx902 ?_
    refine GX.q (.int .u8 x902) ?_
    iterate 3 refine GX.q (.bool (!decide (x902 = 128))) ?_
    refine GX.done ?_
    rcases bool_two (decide (x902 = 128)) with hb5 | hb5
    ·rw [hb5]; first | replace hR := cond_f hb5 hR | (try simp only [hb5, bb] at hR)
     refine WK.condT rfl ?_
     refine WK.sr mixed ?_
     refine GX.q (.agg [.int .u32 0, .bool false, .int .i64 0, .int .u32 0, .int .u32 0]) ?_
     refine GX.step0 (heap' := [(0, .box [.int .u32 0, .bool false, .int .i64 0, .int .u32 0, .int .u32 0])]) (next' := 1) rfl rfl rfl rfl rfl ?_
     refine GX.m rfl ?_
     refine GX.done ?_
     refine WK.ret ?_
     obtain rfl := Option.some.inj hR
     exact RetQ.fr [] (.inr rfl) rfl rfl rfl rfl
    ·rw [hb5]; first | replace hR := cond_t hb5 hR | (try simp only [hb5, bb] at hR)
     refine WK.condF rfl ?_
     refine WK.skip ?_
     refine WK.sr mixed ?_
     refine GX.m rfl ?_
     generalize hc28 : F70_crossroadsref01_Rows b0 4 = c28 at hR
     rcases c28 with _ | c28
     ·try dsimp only at hR
      cases hR
     try dsimp only at hR
     obtain ⟨c28a, c28b⟩ := c28; try dsimp only at hR
     refine GX.callp (r := .tup [.ro 1 (c28a.map c_u32), .int .i64 c28b]) rfl rfl rfl (f70_ok b0 4 _ hc28) rfl rfl ?_
     refine GX.m rfl ?_
     refine GX.q (.ro 1 (c28a.map c_u32)) ?_
     refine GX.q (.int .i64 c28b) ?_
     iterate 2 refine GX.m rfl ?_
     refine GX.done ?_
     refine WK.seq ?_
     refine WK.sr mixed ?_
     refine GX.m rfl ?_
     generalize hx905 : getI c28a 0 = x905 at hR
     rcases x905 with _ | x905
     ·try dsimp only at hR
      cases hR
     try dsimp only at hR
     obtain ⟨hx9050, hx905j, hx905l, hx905⟩ := getI_some hx905
     refine GX.idxT (c := c_u32) (x := x905) rfl rfl rfl hx9050 hx905 ?_
     refine GX.q (.int .u32 x905) ?_
     generalize hc34 : F72_crossroadsref12_isMask x905 = c34 at hR
     try dsimp only at hR
     refine GX.callp (r := .bool c34) rfl rfl rfl (f72_ok x905 _ hc34) rfl rfl ?_
     refine GX.q (.bool (!c34)) ?_
     refine GX.done ?_
     rcases bool_two (c34) with hb7 | hb7
     ·rw [hb7]; first | replace hR := cond_f hb7 hR | (try simp only [hb7, bb] at hR)
      refine WK.condT rfl ?_
      refine WK.sr mixed ?_
      refine GX.q (.agg [.int .u32 0, .bool false, .int .i64 0, .int .u32 0, .int .u32 0]) ?_
      refine GX.step0 (heap' := [(0, .box [.int .u32 0, .bool false, .int .i64 0, .int .u32 0, .int .u32 0])]) (next' := 1) rfl rfl rfl rfl rfl ?_
      refine GX.m rfl ?_
      refine GX.done ?_
      refine WK.ret ?_
      obtain rfl := Option.some.inj hR
      exact RetQ.fr [] (.inr rfl) rfl rfl rfl rfl
     ·rw [hb7]; first | replace hR := cond_t hb7 hR | (try simp only [hb7, bb] at hR)
      refine WK.condF rfl ?_
      refine WK.skip ?_
      refine WK.seq ?_
      refine WK.drawn mixed ?_
      refine RD.m rfl ?_
      refine RD.idxT (c := c_u32) (x := x905) rfl rfl rfl hx9050 hx905 ?_
      refine RD.q (.int .u32 x905) ?_
      refine RD.m rfl ?_
      refine RD.idxT (c := c_u8) (x := x902) rfl rfl rfl hx9020 hx902 ?_
      refine RD.q (.int .u8 x902) ?_
      refine RD.q (.bool (decide (x902 = 128))) ?_
      refine RD.m rfl ?_
      generalize hx907 : getI c28a 1 = x907 at hR
      rcases x907 with _ | x907
      ·try dsimp only at hR
       cases hR
      try dsimp only at hR
      obtain ⟨hx9070, hx907j, hx907l, hx907⟩ := getI_some hx907
      refine RD.idxT (c := c_u32) (x := x907) rfl rfl rfl hx9070 hx907 ?_
      refine RD.q (.int .u32 x907) ?_
      refine RD.q (.int .u32 (Int.tmod x907 16777216)) ?_
      refine RD.q (.int .i64 (IntKind.i64.wrap (Int.tmod x907 16777216))) ?_
      refine RD.m rfl ?_
      generalize hx908 : getI c28a 2 = x908 at hR
      rcases x908 with _ | x908
      ·try dsimp only at hR
       cases hR
      try dsimp only at hR
      obtain ⟨hx9080, hx908j, hx908l, hx908⟩ := getI_some hx908
      refine RD.idxT (c := c_u32) (x := x908) rfl rfl rfl hx9080 hx908 ?_
      refine RD.q (.int .u32 x908) ?_
      refine RD.m rfl ?_
      generalize hx909 : getI c28a 3 = x909 at hR
      rcases x909 with _ | x909
      ·try dsimp only at hR
       cases hR
      try dsimp only at hR
      obtain ⟨hx9090, hx909j, hx909l, hx909⟩ := getI_some hx909
      refine RD.idxT (c := c_u32) (x := x909) rfl rfl rfl hx9090 hx909 ?_
      refine RD.q (.int .u32 x909) ?_
      refine RD.q (.agg [.int .u32 x905, .bool (decide (x902 = 128)), .int .i64 (IntKind.i64.wrap (Int.tmod x907 16777216)), .int .u32 x908, .int .u32 x909]) ?_
      refine RD.step0 (heap' := [(0, .box [.int .u32 x905, .bool (decide (x902 = 128)), .int .i64 (IntKind.i64.wrap (Int.tmod x907 16777216)), .int .u32 x908, .int .u32 x909])]) (next' := 1) rfl rfl rfl rfl rfl ?_
      refine RD.m rfl ?_
      refine RD.done rfl ?_
      refine WK.ret ?_
      obtain rfl := Option.some.inj hR
      exact RetQ.fr [] (.inr rfl) rfl rfl rfl rfl
   ·rw [hb4]; first | replace hR := cond_t hb4 hR | (try simp only [hb4, bb] at hR)
    iterate 4 refine GX.skip rfl rfl ?_
    iterate 2 refine GX.q (.bool false) ?_
    refine GX.done ?_
    refine WK.condF rfl ?_
    refine WK.skip ?_
    refine WK.sr mixed ?_
    refine GX.m rfl ?_
    generalize hc28 : F70_crossroadsref01_Rows b0 4 = c28 at hR
    rcases c28 with _ | c28
    ·try dsimp only at hR
     cases hR
    try dsimp only at hR
    obtain ⟨c28a, c28b⟩ := c28; try dsimp only at hR
    refine GX.callp (r := .tup [.ro 1 (c28a.map c_u32), .int .i64 c28b]) rfl rfl rfl (f70_ok b0 4 _ hc28) rfl rfl ?_
    refine GX.m rfl ?_
    refine GX.q (.ro 1 (c28a.map c_u32)) ?_
    refine GX.q (.int .i64 c28b) ?_
    iterate 2 refine GX.m rfl ?_
    refine GX.done ?_
    refine WK.seq ?_
    refine WK.sr mixed ?_
    refine GX.m rfl ?_
    generalize hx910 : getI c28a 0 = x910 at hR
    rcases x910 with _ | x910
    ·try dsimp only at hR
     cases hR
    try dsimp only at hR
    obtain ⟨hx9100, hx910j, hx910l, hx910⟩ := getI_some hx910
    refine GX.idxT (c := c_u32) (x := x910) rfl rfl rfl hx9100 hx910 ?_
    refine GX.q (.int .u32 x910) ?_
    generalize hc34 : F72_crossroadsref12_isMask x910 = c34 at hR
    try dsimp only at hR
    refine GX.callp (r := .bool c34) rfl rfl rfl (f72_ok x910 _ hc34) rfl rfl ?_
    refine GX.q (.bool (!c34)) ?_
    refine GX.done ?_
    rcases bool_two (c34) with hb12 | hb12
    ·rw [hb12]; first | replace hR := cond_f hb12 hR | (try simp only [hb12, bb] at hR)
     refine WK.condT rfl ?_
     refine WK.sr mixed ?_
     refine GX.q (.agg [.int .u32 0, .bool false, .int .i64 0, .int .u32 0, .int .u32 0]) ?_
     refine GX.step0 (heap' := [(0, .box [.int .u32 0, .bool false, .int .i64 0, .int .u32 0, .int .u32 0])]) (next' := 1) rfl rfl rfl rfl rfl ?_
     refine GX.m rfl ?_
     refine GX.done ?_
     refine WK.ret ?_
     obtain rfl := Option.some.inj hR
     exact RetQ.fr [] (.inr rfl) rfl rfl rfl rfl
    ·rw [hb12]; first | replace hR := cond_t hb12 hR | (try simp only [hb12, bb] at hR)
     refine WK.condF rfl ?_
     refine WK.skip ?_
     refine WK.seq ?_
     refine WK.drawn mixed ?_
     refine RD.m rfl ?_
     refine RD.idxT (c := c_u32) (x := x910) rfl rfl rfl hx9100 hx910 ?_
     refine RD.q (.int .u32 x910) ?_
     refine RD.m rfl ?_
     refine RD.idxT (c := c_u8) (x := x902) rfl rfl rfl hx9020 hx902 ?_
     refine RD.q (.int .u8 x902) ?_
     refine RD.q (.bool (decide (x902 = 128))) ?_
     refine RD.m rfl ?_
     generalize hx912 : getI c28a 1 = x912 at hR
     rcases x912 with _ | x912
     ·try dsimp only at hR
      cases hR
     try dsimp only at hR
     obtain ⟨hx9120, hx912j, hx912l, hx912⟩ := getI_some hx912
     refine RD.idxT (c := c_u32) (x := x912) rfl rfl rfl hx9120 hx912 ?_
     refine RD.q (.int .u32 x912) ?_
     refine RD.q (.int .u32 (Int.tmod x912 16777216)) ?_
     refine RD.q (.int .i64 (IntKind.i64.wrap (Int.tmod x912 16777216))) ?_
     refine RD.m rfl ?_
     generalize hx913 : getI c28a 2 = x913 at hR
     rcases x913 with _ | x913
     ·try dsimp only at hR
      cases hR
     try dsimp only at hR
     obtain ⟨hx9130, hx913j, hx913l, hx913⟩ := getI_some hx913
     refine RD.idxT (c := c_u32) (x := x913) rfl rfl rfl hx9130 hx913 ?_
     refine RD.q (.int .u32 x913) ?_
     refine RD.m rfl ?_
     generalize hx914 : getI c28a 3 = x914 at hR
     rcases x914 with _ | x914
     ·try dsimp only at hR
      cases hR
     try dsimp only at hR
     obtain ⟨hx9140, hx914j, hx914l, hx914⟩ := getI_some hx914
     refine RD.idxT (c := c_u32) (x := x914) rfl rfl rfl hx9140 hx914 ?_
     refine RD.q (.int .u32 x914) ?_
     refine RD.q (.agg [.int .u32 x910, .bool (decide (x902 = 128)), .int .i64 (IntKind.i64.wrap (Int.tmod x912 16777216)), .int .u32 x913, .int .u32 x914]) ?_
     refine RD.step0 (heap' := [(0, .box [.int .u32 x910, .bool (decide (x902 = 128)), .int .i64 (IntKind.i64.wrap (Int.tmod x912 16777216)), .int .u32 x913, .int .u32 x914])]) (next' := 1) rfl rfl rfl rfl rfl ?_
     refine RD.m rfl ?_
     refine RD.done rfl ?_
     refine WK.ret ?_
     obtain rfl := Option.some.inj hR
     exact RetQ.fr [] (.inr rfl) rfl rfl rfl rfl
  ·rw [hb2]; first | replace hR := cond_t hb2 hR | (try simp only [hb2, bb] at hR)
   iterate 10 refine GX.skip rfl rfl ?_
   refine GX.q (.bool true) ?_
   refine GX.done ?_
   refine WK.condT rfl ?_
   refine WK.sr mixed ?_
   refine GX.q (.agg [.int .u32 0, .bool false, .int .i64 0, .int .u32 0, .int .u32 0]) ?_
   refine GX.step0 (heap' := [(0, .box [.int .u32 0, .bool false, .int .i64 0, .int .u32 0, .int .u32 0])]) (next' := 1) rfl rfl rfl rfl rfl ?_
   refine GX.m rfl ?_
   refine GX.done ?_
   refine WK.ret ?_
   obtain rfl := Option.some.inj hR
   exact RetQ.fr [] (.inr rfl) rfl rfl rfl rfl
 ·rw [hb1]; first | replace hR := cond_t hb1 hR | (try simp only [hb1, bb] at hR)
  refine WK.condT rfl ?_
  refine WK.sr mixed ?_
  refine GX.q (.agg [.int .u32 0, .bool false, .int .i64 0, .int .u32 0, .int .u32 0]) ?_
  refine GX.step0 (heap' := [(0, .box [.int .u32 0, .bool false, .int .i64 0, .int .u32 0, .int .u32 0])]) (next' := 1) rfl rfl rfl rfl rfl ?_
  refine GX.m rfl ?_
  refine GX.done ?_
  refine WK.ret ?_
  obtain rfl := Option.some.inj hR
  exact RetQ.fr [] (.inr rfl) rfl rfl rfl rfl

theorem f36_ok (a0 : TAd) (R : Bool) (hR : F36_crossroadsref12_Right a0 = some R) : FnOk Try.prog 36 [.agg (TAd.c a0)] [] 0 (.bool R) [] 0 := by
 refine FnOk.wk i36 rfl rfl ?_
 unfold F36_crossroadsref12_Right at hR
 try dsimp only at hR
 change WK _ _ _ [ac36] _ ⟨[(0, .agg (TAd.c a0))], [], 0⟩
 unfold ac36
 refine WK.sr mixed ?_
 refine GX.step (v' := .ptr 0 0) (heap' := [(0, .box (TAd.c a0))]) (next' := 1) rfl rfl rfl rfl rfl rfl rfl ?_
 refine GX.m rfl ?_
 refine GX.done ?_
 refine WK.sr mixed ?_
 refine GX.m rfl ?_
 refine GX.done ?_
 refine WK.seq ?_
 refine WK.sr mixed ?_
 refine GX.q (.ptr 0 0) ?_
 refine GX.q (.ptr 0 2) ?_
 refine GX.q (.int .i64 a0.H.Typef) ?_
 refine GX.done ?_
 refine WK.blockK (fun _ hK1 => ?_)
 refine WK.sr mixed ?_
 refine GX.q (.bool (decide (a0.H.Typef = 1))) ?_
 refine GX.m rfl ?_
 refine GX.done ?_
 rcases bool_two (decide (a0.H.Typef = 1)) with hb2 | hb2
 ·rw [hb2]; first | replace hR := cond_f hb2 hR | (try simp only [hb2, bb] at hR)
  refine WK.condF rfl ?_
  refine WK.sr mixed ?_
  refine GX.q (.bool (decide (a0.H.Typef = 2))) ?_
  refine GX.m rfl ?_
  refine GX.done ?_
  rcases bool_two (decide (a0.H.Typef = 2)) with hb3 | hb3
  ·rw [hb3]; first | replace hR := cond_f hb3 hR | (try simp only [hb3, bb] at hR)
   refine WK.condF rfl ?_
   refine WK.seq ?_
   refine WK.sr mixed ?_
   refine GX.q (.bool (decide (a0.H.Typef = 3))) ?_
   refine GX.m rfl ?_
   refine GX.done ?_
   rcases bool_two (decide (a0.H.Typef = 3)) with hb4 | hb4
   ·rw [hb4]; first | replace hR := cond_f hb4 hR | (try simp only [hb4, bb] at hR)
    refine WK.condF rfl ?_
    refine WK.regx mixed ?_
    refine GX.q (.bool (decide (a0.H.Typef = 4))) ?_
    refine GX.m rfl ?_
    refine GX.done ?_
    rcases bool_two (decide (a0.H.Typef = 4)) with hb5 | hb5
    ·rw [hb5]; first | replace hR := cond_f hb5 hR | (try simp only [hb5, bb] at hR)
     refine WK.condF rfl ?_
     refine WK.seq ?_
     refine WK.sr mixed ?_
     refine GX.q (.bool (decide (a0.H.Typef = 5))) ?_
     refine GX.m rfl ?_
     refine GX.done ?_
     rcases bool_two (decide (a0.H.Typef = 5)) with hb6 | hb6
     ·rw [hb6]; first | replace hR := cond_f hb6 hR | (try simp only [hb6, bb] at hR)
      refine WK.condF rfl ?_
      refine WK.regx mixed ?_
      refine GX.q (.bool (decide (a0.H.Typef = 7))) ?_
      refine GX.m rfl ?_
      refine GX.done ?_
      rcases bool_two (decide (a0.H.Typef = 7)) with hb7 | hb7
      ·rw [hb7]; first | replace hR := cond_f hb7 hR | (try simp only [hb7, bb] at hR)
       refine WK.condF rfl ?_
       refine WK.skip ?_
       refine WK.nil (QF.normal (hK1 _ ?_))
       refine WK.sr mixed ?_
       refine GX.m rfl ?_
       refine GX.q (.bool false) ?_
       refine GX.m rfl ?_
       refine GX.done ?_
       refine WK.ret ?_
       obtain rfl := Option.some.inj hR
       exact RetQ.fr [] (.inr rfl) rfl rfl rfl rfl
      ·rw [hb7]; first | replace hR := cond_t hb7 hR | (try simp only [hb7, bb] at hR)
       refine WK.condT rfl ?_
       refine WK.regx mixed ?_
       refine GX.q (.ptr 0 8) ?_
       refine GX.q (.ro 1 (a0.B.map c_u8)) ?_
       generalize hc38 : F55_crossroadsref12_ReadExternal a0.B = c38 at hR
       rcases c38 with _ | c38
       ·try dsimp only at hR
        cases hR
       try dsimp only at hR
       obtain ⟨c38a, c38b⟩ := c38; try dsimp only at hR
       refine GX.callp (r := .tup [.agg [.int .u32 c38a.Mask, .bool c38a.Second, .int .i64 c38a.Cost, .int .u32 c38a.Forward, .int .u32 c38a.Tag], .int .i64 c38b]) rfl rfl rfl (f55_ok a0.B _ hc38) rfl rfl ?_
       refine GX.m rfl ?_
       refine GX.q (.agg [.int .u32 c38a.Mask, .bool c38a.Second, .int .i64 c38a.Cost, .int .u32 c38a.Forward, .int .u32 c38a.Tag]) ?_
       refine GX.q (.int .i64 c38b) ?_
       refine GX.m rfl ?_
       refine GX.done ?_
       refine WK.nil (QF.normal (hK1 _ ?_))
       refine WK.sr mixed ?_
       refine GX.m rfl ?_
       refine GX.q (.bool (decide (c38b = 0))) ?_
       refine GX.m rfl ?_
       refine GX.done ?_
       refine WK.ret ?_
       obtain rfl := Option.some.inj hR
       exact RetQ.fr [] (.inr rfl) rfl rfl rfl rfl
     ·rw [hb6]; first | replace hR := cond_t hb6 hR | (try simp only [hb6, bb] at hR)
      refine WK.condT rfl ?_
      refine WK.skip ?_
      refine WK.condT rfl ?_
      refine WK.regx mixed ?_
      refine GX.q (.ptr 0 8) ?_
      refine GX.q (.ro 1 (a0.B.map c_u8)) ?_
      generalize hc38 : F55_crossroadsref12_ReadExternal a0.B = c38 at hR
      rcases c38 with _ | c38
      ·try dsimp only at hR
       cases hR
      try dsimp only at hR
      obtain ⟨c38a, c38b⟩ := c38; try dsimp only at hR
      refine GX.callp (r := .tup [.agg [.int .u32 c38a.Mask, .bool c38a.Second, .int .i64 c38a.Cost, .int .u32 c38a.Forward, .int .u32 c38a.Tag], .int .i64 c38b]) rfl rfl rfl (f55_ok a0.B _ hc38) rfl rfl ?_
      refine GX.m rfl ?_
      refine GX.q (.agg [.int .u32 c38a.Mask, .bool c38a.Second, .int .i64 c38a.Cost, .int .u32 c38a.Forward, .int .u32 c38a.Tag]) ?_
      refine GX.q (.int .i64 c38b) ?_
      refine GX.m rfl ?_
      refine GX.done ?_
      refine WK.nil (QF.normal (hK1 _ ?_))
      refine WK.sr mixed ?_
      refine GX.m rfl ?_
      refine GX.q (.bool (decide (c38b = 0))) ?_
      refine GX.m rfl ?_
      refine GX.done ?_
      refine WK.ret ?_
      obtain rfl := Option.some.inj hR
      exact RetQ.fr [] (.inr rfl) rfl rfl rfl rfl
    ·rw [hb5]; first | replace hR := cond_t hb5 hR | (try simp only [hb5, bb] at hR)
     refine WK.condT rfl ?_
     refine WK.regx mixed ?_
     refine GX.q (.ptr 0 8) ?_
     refine GX.q (.ro 1 (a0.B.map c_u8)) ?_
     generalize hc29 : F54_crossroadsref12_ReadSummary a0.B = c29 at hR
     rcases c29 with _ | c29
     ·try dsimp only at hR
      cases hR
     try dsimp only at hR
     obtain ⟨c29a, c29b⟩ := c29; try dsimp only at hR
     refine GX.callp (r := .tup [.agg [.int .u32 c29a.Mask, .int .i64 c29a.Cost], .int .i64 c29b]) rfl rfl rfl (f54_ok a0.B _ hc29) rfl rfl ?_
     refine GX.m rfl ?_
     refine GX.q (.agg [.int .u32 c29a.Mask, .int .i64 c29a.Cost]) ?_
     refine GX.q (.int .i64 c29b) ?_
     refine GX.m rfl ?_
     refine GX.done ?_
     refine WK.nil (QF.normal (hK1 _ ?_))
     refine WK.sr mixed ?_
     refine GX.m rfl ?_
     refine GX.q (.bool (decide (c29b = 0))) ?_
     refine GX.m rfl ?_
     refine GX.done ?_
     refine WK.ret ?_
     obtain rfl := Option.some.inj hR
     exact RetQ.fr [] (.inr rfl) rfl rfl rfl rfl
   ·rw [hb4]; first | replace hR := cond_t hb4 hR | (try simp only [hb4, bb] at hR)
    refine WK.condT rfl ?_
    refine WK.skip ?_
    refine WK.condT rfl ?_
    refine WK.regx mixed ?_
    refine GX.q (.ptr 0 8) ?_
    refine GX.q (.ro 1 (a0.B.map c_u8)) ?_
    generalize hc29 : F54_crossroadsref12_ReadSummary a0.B = c29 at hR
    rcases c29 with _ | c29
    ·try dsimp only at hR
     cases hR
    try dsimp only at hR
    obtain ⟨c29a, c29b⟩ := c29; try dsimp only at hR
    refine GX.callp (r := .tup [.agg [.int .u32 c29a.Mask, .int .i64 c29a.Cost], .int .i64 c29b]) rfl rfl rfl (f54_ok a0.B _ hc29) rfl rfl ?_
    refine GX.m rfl ?_
    refine GX.q (.agg [.int .u32 c29a.Mask, .int .i64 c29a.Cost]) ?_
    refine GX.q (.int .i64 c29b) ?_
    refine GX.m rfl ?_
    refine GX.done ?_
    refine WK.nil (QF.normal (hK1 _ ?_))
    refine WK.sr mixed ?_
    refine GX.m rfl ?_
    refine GX.q (.bool (decide (c29b = 0))) ?_
    refine GX.m rfl ?_
    refine GX.done ?_
    refine WK.ret ?_
    obtain rfl := Option.some.inj hR
    exact RetQ.fr [] (.inr rfl) rfl rfl rfl rfl
  ·rw [hb3]; first | replace hR := cond_t hb3 hR | (try simp only [hb3, bb] at hR)
   refine WK.condT rfl ?_
   refine WK.regx mixed ?_
   refine GX.q (.ptr 0 8) ?_
   refine GX.q (.ro 1 (a0.B.map c_u8)) ?_
   generalize hc20 : F53_crossroadsref12_ReadNetwork a0.B = c20 at hR
   rcases c20 with _ | c20
   ·try dsimp only at hR
    cases hR
   try dsimp only at hR
   obtain ⟨c20a, c20b⟩ := c20; try dsimp only at hR
   refine GX.callp (r := .tup [.agg [.int .u32 c20a.Mask, .ro 1 (c20a.Routers.map c_u32)], .int .i64 c20b]) rfl rfl rfl (f53_ok a0.B _ hc20) rfl rfl ?_
   refine GX.m rfl ?_
   refine GX.q (.agg [.int .u32 c20a.Mask, .ro 1 (c20a.Routers.map c_u32)]) ?_
   refine GX.q (.int .i64 c20b) ?_
   refine GX.m rfl ?_
   refine GX.done ?_
   refine WK.nil (QF.normal (hK1 _ ?_))
   refine WK.sr mixed ?_
   refine GX.m rfl ?_
   refine GX.q (.bool (decide (c20b = 0))) ?_
   refine GX.m rfl ?_
   refine GX.done ?_
   refine WK.ret ?_
   obtain rfl := Option.some.inj hR
   exact RetQ.fr [] (.inr rfl) rfl rfl rfl rfl
 ·rw [hb2]; first | replace hR := cond_t hb2 hR | (try simp only [hb2, bb] at hR)
  refine WK.condT rfl ?_
  refine WK.regx mixed ?_
  refine GX.q (.ptr 0 8) ?_
  refine GX.q (.ro 1 (a0.B.map c_u8)) ?_
  generalize hc12 : F52_crossroadsref12_ReadRouter a0.B = c12 at hR
  rcases c12 with _ | c12
  ·try dsimp only at hR
   cases hR
  try dsimp only at hR
  obtain ⟨c12a, c12b⟩ := c12; try dsimp only at hR
  refine GX.callp (r := .tup [.agg [.int .i64 c12a.Flags, .ro 4 (c12a.Links.map TLink.c)], .int .i64 c12b]) rfl rfl rfl (f52_ok a0.B _ hc12) rfl rfl ?_
  refine GX.m rfl ?_
  refine GX.q (.agg [.int .i64 c12a.Flags, .ro 4 (c12a.Links.map TLink.c)]) ?_
  refine GX.q (.int .i64 c12b) ?_
  refine GX.m rfl ?_
  refine GX.done ?_
  refine WK.nil (QF.normal (hK1 _ ?_))
  refine WK.sr mixed ?_
  refine GX.m rfl ?_
  refine GX.q (.bool (decide (c12b = 0))) ?_
  refine GX.m rfl ?_
  refine GX.done ?_
  refine WK.ret ?_
  obtain rfl := Option.some.inj hR
  exact RetQ.fr [] (.inr rfl) rfl rfl rfl rfl

theorem f37_ok (a0 : TKey) (b1 : TKey) (R : Bool) (hR : F37_crossroadsref11_Less a0 b1 = R) : FnOk Try.prog 37 [.agg (TKey.c a0), .agg (TKey.c b1)] [] 0 (.bool R) [] 0 := by
 refine FnOk.wk i37 rfl rfl ?_
 unfold F37_crossroadsref11_Less at hR
 change WK _ _ _ [ac37] _ ⟨[(0, .agg (TKey.c a0)), (1, .agg (TKey.c b1))], [], 0⟩
 unfold ac37
 refine WK.sr mixed ?_
 refine GX.step (v' := .ptr 0 0) (heap' := [(0, .box (TKey.c a0))]) (next' := 1) rfl rfl rfl rfl rfl rfl rfl ?_
 refine GX.step (v' := .ptr 1 0) (heap' := [(0, .box (TKey.c a0)), (1, .box (TKey.c b1))]) (next' := 2) rfl rfl rfl rfl rfl rfl rfl ?_
 refine GX.m rfl ?_
 refine GX.done ?_
 refine WK.seq ?_
 refine WK.sr mixed ?_
 refine GX.q (.ptr 0 0) ?_
 refine GX.q (.int .i64 a0.Typef) ?_
 refine GX.q (.ptr 1 0) ?_
 refine GX.q (.int .i64 b1.Typef) ?_
 refine GX.q (.bool (!decide (a0.Typef = b1.Typef))) ?_
 refine GX.done ?_
 rcases bool_two (decide (a0.Typef = b1.Typef)) with hb1 | hb1
 ·rw [hb1]; try simp only [hb1, bb] at hR
  refine WK.condT rfl ?_
  refine WK.sr mixed ?_
  refine GX.q (.ptr 0 0) ?_
  refine GX.q (.int .i64 a0.Typef) ?_
  refine GX.q (.ptr 1 0) ?_
  refine GX.q (.int .i64 b1.Typef) ?_
  refine GX.q (.bool (decide (a0.Typef < b1.Typef))) ?_
  refine GX.m rfl ?_
  refine GX.done ?_
  refine WK.ret ?_
  subst hR
  exact RetQ.fr [] (.inr rfl) rfl rfl rfl rfl
 ·rw [hb1]; try simp only [hb1, bb] at hR
  refine WK.condF rfl ?_
  refine WK.skip ?_
  refine WK.sr mixed ?_
  refine GX.q (.ptr 0 1) ?_
  refine GX.q (.int .u32 a0.ID) ?_
  refine GX.q (.ptr 1 1) ?_
  refine GX.q (.int .u32 b1.ID) ?_
  refine GX.q (.bool (decide (a0.ID < b1.ID))) ?_
  refine GX.m rfl ?_
  rcases bool_two (decide (a0.ID < b1.ID)) with hb2 | hb2
  ·rw [hb2]; try simp only [hb2, bb] at hR
   refine GX.q (.ptr 0 1) ?_
   refine GX.q (.int .u32 a0.ID) ?_
   refine GX.q (.ptr 1 1) ?_
   refine GX.q (.int .u32 b1.ID) ?_
   refine GX.q (.bool (decide (a0.ID = b1.ID))) ?_
   refine GX.m rfl ?_
   rcases bool_two (decide (a0.ID = b1.ID)) with hb3 | hb3
   ·rw [hb3]; try simp only [hb3, bb] at hR
    iterate 5 refine GX.skip rfl rfl ?_
    iterate 2 refine GX.q (.bool false) ?_
    refine GX.m rfl ?_
    refine GX.done ?_
    refine WK.ret ?_
    subst hR
    exact RetQ.fr [] (.inr rfl) rfl rfl rfl rfl
   ·rw [hb3]; try simp only [hb3, bb] at hR
    refine GX.q (.ptr 0 2) ?_
    refine GX.q (.int .u32 a0.Adv) ?_
    refine GX.q (.ptr 1 2) ?_
    refine GX.q (.int .u32 b1.Adv) ?_
    iterate 3 refine GX.q (.bool (decide (a0.Adv < b1.Adv))) ?_
    refine GX.m rfl ?_
    refine GX.done ?_
    refine WK.ret ?_
    subst hR
    exact RetQ.fr [] (.inr rfl) rfl rfl rfl rfl
  ·rw [hb2]; try simp only [hb2, bb] at hR
   iterate 12 refine GX.skip rfl rfl ?_
   refine GX.q (.bool true) ?_
   refine GX.m rfl ?_
   refine GX.done ?_
   refine WK.ret ?_
   subst hR
   exact RetQ.fr [] (.inr rfl) rfl rfl rfl rfl

theorem f38_ok (h0 : THeader) (R : TKey) (hR : F38_crossroadsref11_Key h0 = R) : FnOk Try.prog 38 [.agg (THeader.c h0)] [] 0 (.agg (TKey.c R)) [] 0 := by
 refine FnOk.wk i38 rfl rfl ?_
 unfold F38_crossroadsref11_Key at hR
 change WK _ _ _ [ac38] _ ⟨[(0, .agg (THeader.c h0))], [], 0⟩
 unfold ac38
 refine WK.sr mixed ?_
 refine GX.step (v' := .ptr 0 0) (heap' := [(0, .box (THeader.c h0))]) (next' := 1) rfl rfl rfl rfl rfl rfl rfl ?_
 refine GX.step (v' := .ptr 1 0) (heap' := [(0, .box (THeader.c h0)), (1, .box [.int .i64 0, .int .u32 0, .int .u32 0])]) (next' := 2) rfl rfl rfl rfl rfl rfl rfl ?_
 refine GX.done ?_
 refine WK.sr mixed ?_
 refine GX.q (.ptr 0 2) ?_
 refine GX.q (.int .i64 h0.Typef) ?_
 refine GX.q (.ptr 0 3) ?_
 refine GX.q (.int .u32 h0.ID) ?_
 refine GX.q (.ptr 0 4) ?_
 refine GX.q (.int .u32 h0.Adv) ?_
 refine GX.q (.agg [.int .i64 h0.Typef, .int .u32 h0.ID, .int .u32 h0.Adv]) ?_
 refine GX.step0 (heap' := [(0, .box (THeader.c h0)), (1, .box [.int .i64 h0.Typef, .int .u32 h0.ID, .int .u32 h0.Adv])]) (next' := 2) rfl rfl rfl rfl rfl ?_
 refine GX.done ?_
 refine WK.ret ?_
 subst hR
 exact RetQ.fr [] (.inr rfl) rfl rfl rfl rfl

theorem f22_ok (s0 : TStore) (R : Bool) (hR : F22_crossroadsref14_May s0 = some R) : FnOk Try.prog 22 [.agg (TStore.c s0)] [] 0 (.bool R) [] 0 := by
 refine FnOk.wk i22 rfl rfl ?_
 unfold F22_crossroadsref14_May at hR
 try dsimp only at hR
 change WK _ _ _ [ac22] _ ⟨[(0, .agg (TStore.c s0))], [], 0⟩
 unfold ac22
 refine WK.sr mixed ?_
 refine GX.step (v' := .ptr 0 0) (heap' := [(0, .box (TStore.c s0))]) (next' := 1) rfl rfl rfl rfl rfl rfl rfl ?_
 refine GX.m rfl ?_
 refine GX.done ?_
 refine WK.seq ?_
 refine WK.sr mixed ?_
 refine GX.q (.ptr 0 0) ?_
 refine GX.q (.int .i64 s0.Max) ?_
 refine GX.q (.bool (decide (s0.Max < 1))) ?_
 refine GX.m rfl ?_
 rcases bool_two (decide (s0.Max < 1)) with hb1 | hb1
 ·rw [hb1]; first | replace hR := cond_f hb1 hR | (try simp only [hb1, bb] at hR)
  refine GX.q (.ptr 0 0) ?_
  refine GX.q (.int .i64 s0.Max) ?_
  iterate 2 refine GX.q (.bool (decide (2000 < s0.Max))) ?_
  refine GX.m rfl ?_
  rcases bool_two (decide (2000 < s0.Max)) with hb2 | hb2
  ·rw [hb2]; first | replace hR := cond_f hb2 hR | (try simp only [hb2, bb] at hR)
   refine GX.q (.ptr 0 1) ?_
   refine GX.q (.ro 9 (s0.L.map TAd.c)) ?_
   refine GX.pure (v' := .int .i64 (s0.L.length : Int)) rfl rfl rfl rfl (len_map _ _) ?_
   refine GX.q (.ptr 0 0) ?_
   refine GX.q (.int .i64 s0.Max) ?_
   iterate 2 refine GX.q (.bool (decide (s0.Max < (s0.L.length : Int)))) ?_
   refine GX.done ?_
   rcases bool_two (decide (s0.Max < (s0.L.length : Int))) with hb3 | hb3
   ·rw [hb3]; first | replace hR := cond_f hb3 hR | (try simp only [hb3, bb] at hR)
    refine WK.condF rfl ?_
    refine WK.skip ?_
    refine WK.seq ?_
    refine WK.sr mixed ?_
    refine GX.m rfl ?_
    refine GX.done ?_
    refine WK.len (t := 14) rfl (by simp) (fun hlen_4 => ?_)
    rw [List.length_map] at hlen_4
    generalize hZ_4 : F22_crossroadsref14_May_l1 s0 0 s0.L = Z_4 at hR
    refine WK.forK (fun k s => ∃ (i3 : Nat), i3 ≤ s0.L.length ∧ k = s0.L.length - i3 ∧ F22_crossroadsref14_May_l1 s0 i3 (s0.L.drop i3) = Z_4 ∧ s = ⟨[(1, .ptr 0 0), (3, .int .i64 (i3 : Int))], [(0, .box (TStore.c s0))], 1⟩) s0.L.length ⟨⟨[(1, .ptr 0 0), (3, .int .i64 (0 : Int))], [(0, .box (TStore.c s0))], 1⟩, Conv.keep [0] [] [1, 3] rfl rfl (viewE_cons rfl rfl (viewE_cons rfl rfl viewE_nil)) rfl rfl, 0, (by omega), rfl, hZ_4, rfl⟩ ?_
    rintro _ _ ⟨i3, hi_4, rfl, hL_4, rfl⟩ again_4 out_4 Q_4 hagain_4 hout_4 hQ_4
    refine WK.seq ?_
    refine WK.sr mixed ?_
    refine GX.m rfl ?_
    refine GX.q (.ptr 0 1) ?_
    refine GX.q (.ro 9 (s0.L.map TAd.c)) ?_
    refine GX.pure (v' := .int .i64 (s0.L.length : Int)) rfl rfl rfl rfl (len_map _ _) ?_
    refine GX.q (.bool (decide ((i3 : Int) < (s0.L.length : Int)))) ?_
    refine GX.done ?_
    rcases bool_two (decide ((i3 : Int) < (s0.L.length : Int))) with hb5 | hb5
    ·rw [hb5]
     rw [drop_end hb5, F22_crossroadsref14_May_l1] at hL_4
     refine WK.condF rfl ?_
     refine WK.exit ?_
     refine QF.exit (hout_4 _ ?_)
     subst hL_4
     try dsimp only [cond_true, cond_false] at hR
     refine WK.sr mixed ?_
     refine GX.m rfl ?_
     refine GX.done ?_
     refine WK.ret ?_
     obtain rfl := Option.some.inj hR
     exact RetQ.fr [] (.inr rfl) rfl rfl rfl rfl
    ·rw [hb5]
     obtain ⟨x3, hx4, hd4, hlt4⟩ := drop_more hb5
     rw [hd4, F22_crossroadsref14_May_l1] at hL_4
     refine WK.condT rfl ?_
     refine WK.skip ?_
     refine WK.seq ?_
     refine WK.blockK (fun _ hK6 => ?_)
     refine WK.seq ?_
     refine WK.sr mixed ?_
     refine GX.q (.ptr 0 1) ?_
     refine GX.q (.ro 9 (s0.L.map TAd.c)) ?_
     refine GX.m rfl ?_
     refine GX.idxT (c := TAd.c) (x := x3) rfl rfl rfl (Int.natCast_nonneg _) hx4 ?_
     refine GX.q (.agg (TAd.c x3)) ?_
     generalize hc32 : F35_crossroadsref11_Whole x3 = c32 at hL_4
     rcases c32 with _ | c32
     ·try dsimp only at hL_4
      subst hL_4
      try dsimp only at hR
      cases hR
     try dsimp only at hL_4
     try dsimp only at hL_4
     refine GX.callp (r := .bool c32) rfl rfl rfl (f35_ok x3 _ hc32) rfl rfl ?_
     refine GX.q (.bool (!c32)) ?_
     refine GX.m rfl ?_
     rcases bool_two (c32) with hb7 | hb7
     ·rw [hb7]; try simp only [hb7, bb] at hL_4
      iterate 7 refine GX.skip rfl rfl ?_
      refine GX.q (.bool true) ?_
      refine GX.done ?_
      refine WK.condT rfl ?_
      refine WK.sr mixed ?_
      refine GX.m rfl ?_
      refine GX.done ?_
      refine WK.ret ?_
      refine QF.ret ?_
      refine QF.ret (hQ_4 _ _ ?_)
      subst hL_4
      try dsimp only at hR
      obtain rfl := Option.some.inj hR
      exact RetQ.fr [] (.inr rfl) rfl rfl rfl rfl
     ·rw [hb7]; try simp only [hb7, bb] at hL_4
      refine GX.q (.ptr 0 1) ?_
      refine GX.q (.ro 9 (s0.L.map TAd.c)) ?_
      refine GX.m rfl ?_
      refine GX.idxT (c := TAd.c) (x := x3) rfl rfl rfl (Int.natCast_nonneg _) hx4 ?_
      refine GX.q (.agg (TAd.c x3)) ?_
      generalize hc40 : F36_crossroadsref12_Right x3 = c40 at hL_4
      rcases c40 with _ | c40
      ·try dsimp only at hL_4
       subst hL_4
       try dsimp only at hR
       cases hR
      try dsimp only at hL_4
      try dsimp only at hL_4
      refine GX.callp (r := .bool c40) rfl rfl rfl (f36_ok x3 _ hc40) rfl rfl ?_
      iterate 2 refine GX.q (.bool (!c40)) ?_
      refine GX.done ?_
      rcases bool_two (c40) with hb8 | hb8
      ·rw [hb8]; try simp only [hb8, bb] at hL_4
       refine WK.condT rfl ?_
       refine WK.sr mixed ?_
       refine GX.m rfl ?_
       refine GX.done ?_
       refine WK.ret ?_
       refine QF.ret ?_
       refine QF.ret (hQ_4 _ _ ?_)
       subst hL_4
       try dsimp only at hR
       obtain rfl := Option.some.inj hR
       exact RetQ.fr [] (.inr rfl) rfl rfl rfl rfl
      ·rw [hb8]; try simp only [hb8, bb] at hL_4
       refine WK.condF rfl ?_
       refine WK.skip ?_
       refine WK.seq ?_
       refine WK.drawn mixed ?_
       refine RD.m rfl ?_
       refine RD.q (.bool (decide (0 < (i3 : Int)))) ?_
       refine RD.m rfl ?_
       rcases bool_two (decide (0 < (i3 : Int))) with hb9 | hb9
       ·rw [hb9]; try simp only [hb9, bb] at hL_4
        iterate 17 refine RD.skip rfl rfl ?_
        refine RD.q (.bool false) ?_
        refine RD.done rfl ?_
        refine WK.condF rfl ?_
        refine WK.skip ?_
        refine WK.nil (QF.normal (hK6 _ ?_))
        refine WK.regx mixed ?_
        refine GX.m rfl ?_
        refine GX.pure (v' := .int .i64 ((i3 + 1 : Nat) : Int)) rfl rfl rfl rfl (congrArg (PVal.int .i64) (wrap_up hlt4 hlen_4)) ?_
        refine GX.m rfl ?_
        refine GX.done ?_
        refine WK.nil (QF.normal ?_)
        exact hagain_4 _ (s0.L.length - (i3 + 1)) ⟨[(1, .ptr 0 0), (3, .int .i64 ((i3 + 1) : Int))], [(0, .box (TStore.c s0))], 1⟩ (by omega) (Conv.keep [0] [] [1, 3] rfl rfl (viewE_cons rfl rfl (viewE_cons rfl rfl viewE_nil)) rfl rfl) ⟨i3 + 1, (by omega), rfl, hL_4, rfl⟩
       ·rw [hb9]; try simp only [hb9, bb] at hL_4
        refine RD.q (.ptr 0 1) ?_
        refine RD.q (.ro 9 (s0.L.map TAd.c)) ?_
        refine RD.m rfl ?_
        refine RD.pure (v' := .int .i64 ((i3 - 1 : Nat) : Int)) rfl rfl rfl rfl (congrArg (PVal.int .i64) (wrap_down hb9 hlt4 hlen_4)) ?_
        generalize hx909 : getI s0.L ((i3 - 1 : Nat) : Int) = x909 at hL_4
        rcases x909 with _ | x909
        ·try dsimp only at hL_4
         subst hL_4
         try dsimp only at hR
         cases hR
        try dsimp only at hL_4
        obtain ⟨hx9090, hx909j, hx909l, hx909⟩ := getI_some hx909
        refine RD.idxT (c := TAd.c) (x := x909) rfl rfl rfl hx9090 hx909 ?_
        refine RD.q (.rptr (TAd.c x909)) ?_
        refine RD.q (.agg [.int .i64 x909.H.Age, .int .i64 x909.H.Options, .int .i64 x909.H.Typef, .int .u32 x909.H.ID, .int .u32 x909.H.Adv, .int .u32 x909.H.Seq, .int .i64 x909.H.Sum, .int .i64 x909.H.Long]) ?_
        generalize hc53 : F38_crossroadsref11_Key x909.H = c53 at hL_4
        try dsimp only at hL_4
        refine RD.callp (r := .agg [.int .i64 c53.Typef, .int .u32 c53.ID, .int .u32 c53.Adv]) rfl rfl rfl (f38_ok x909.H _ hc53) rfl rfl ?_
        refine RD.q (.ptr 0 1) ?_
        refine RD.q (.ro 9 (s0.L.map TAd.c)) ?_
        refine RD.m rfl ?_
        refine RD.idxT (c := TAd.c) (x := x3) rfl rfl rfl (Int.natCast_nonneg _) hx4 ?_
        refine RD.q (.rptr (TAd.c x3)) ?_
        refine RD.q (.agg [.int .i64 x3.H.Age, .int .i64 x3.H.Options, .int .i64 x3.H.Typef, .int .u32 x3.H.ID, .int .u32 x3.H.Adv, .int .u32 x3.H.Seq, .int .i64 x3.H.Sum, .int .i64 x3.H.Long]) ?_
        generalize hc60 : F38_crossroadsref11_Key x3.H = c60 at hL_4
        try dsimp only at hL_4
        refine RD.callp (r := .agg [.int .i64 c60.Typef, .int .u32 c60.ID, .int .u32 c60.Adv]) rfl rfl rfl (f38_ok x3.H _ hc60) rfl rfl ?_
        generalize hc61 : F37_crossroadsref11_Less c53 c60 = c61 at hL_4
        try dsimp only at hL_4
        refine RD.callp (r := .bool c61) rfl rfl rfl (f37_ok c53 c60 _ hc61) rfl rfl ?_
        iterate 2 refine RD.q (.bool (!c61)) ?_
        refine RD.done rfl ?_
        rcases bool_two (c61) with hb11 | hb11
        ·rw [hb11]; try simp only [hb11, bb] at hL_4
         refine WK.condT rfl ?_
         refine WK.sr mixed ?_
         refine GX.m rfl ?_
         refine GX.done ?_
         refine WK.ret ?_
         refine QF.ret ?_
         refine QF.ret (hQ_4 _ _ ?_)
         subst hL_4
         try dsimp only at hR
         obtain rfl := Option.some.inj hR
         exact RetQ.fr [] (.inr rfl) rfl rfl rfl rfl
        ·rw [hb11]; try simp only [hb11, bb] at hL_4
         refine WK.condF rfl ?_
         refine WK.skip ?_
         refine WK.nil (QF.normal (hK6 _ ?_))
         refine WK.regx mixed ?_
         refine GX.m rfl ?_
         refine GX.pure (v' := .int .i64 ((i3 + 1 : Nat) : Int)) rfl rfl rfl rfl (congrArg (PVal.int .i64) (wrap_up hlt4 hlen_4)) ?_
         refine GX.m rfl ?_
         refine GX.done ?_
         refine WK.nil (QF.normal ?_)
         exact hagain_4 _ (s0.L.length - (i3 + 1)) ⟨[(1, .ptr 0 0), (3, .int .i64 ((i3 + 1) : Int))], [(0, .box (TStore.c s0))], 1⟩ (by omega) (Conv.keep [0] [] [1, 3] rfl rfl (viewE_cons rfl rfl (viewE_cons rfl rfl viewE_nil)) rfl rfl) ⟨i3 + 1, (by omega), rfl, hL_4, rfl⟩
   ·rw [hb3]; first | replace hR := cond_t hb3 hR | (try simp only [hb3, bb] at hR)
    refine WK.condT rfl ?_
    refine WK.sr mixed ?_
    refine GX.m rfl ?_
    refine GX.done ?_
    refine WK.ret ?_
    obtain rfl := Option.some.inj hR
    exact RetQ.fr [] (.inr rfl) rfl rfl rfl rfl
  ·rw [hb2]; first | replace hR := cond_t hb2 hR | (try simp only [hb2, bb] at hR)
   iterate 6 refine GX.skip rfl rfl ?_
   refine GX.q (.bool true) ?_
   refine GX.done ?_
   refine WK.condT rfl ?_
   refine WK.sr mixed ?_
   refine GX.m rfl ?_
   refine GX.done ?_
   refine WK.ret ?_
   obtain rfl := Option.some.inj hR
   exact RetQ.fr [] (.inr rfl) rfl rfl rfl rfl
 ·rw [hb1]; first | replace hR := cond_t hb1 hR | (try simp only [hb1, bb] at hR)
  iterate 3 refine GX.skip rfl rfl ?_
  refine GX.q (.bool true) ?_
  refine GX.m rfl ?_
  iterate 6 refine GX.skip rfl rfl ?_
  refine GX.q (.bool true) ?_
  refine GX.done ?_
  refine WK.condT rfl ?_
  refine WK.sr mixed ?_
  refine GX.m rfl ?_
  refine GX.done ?_
  refine WK.ret ?_
  obtain rfl := Option.some.inj hR
  exact RetQ.fr [] (.inr rfl) rfl rfl rfl rfl

theorem f23_ok (a0 : List TKey) (b1 : List TKey) (R : Bool) (hR : F23_crossroadsref13_Keys a0 b1 = R) : FnOk Try.prog 23 [.ro 3 (a0.map TKey.c), .ro 3 (b1.map TKey.c)] [] 0 (.bool R) [] 0 := by
 refine FnOk.wk i23 rfl rfl ?_
 unfold F23_crossroadsref13_Keys at hR
 change WK _ _ _ [ac23] _ ⟨[(0, .ro 3 (a0.map TKey.c)), (1, .ro 3 (b1.map TKey.c))], [], 0⟩
 unfold ac23
 refine WK.sr mixed ?_
 refine GX.m rfl ?_
 refine GX.done ?_
 refine WK.seq ?_
 refine WK.sr mixed ?_
 refine GX.m rfl ?_
 refine GX.pure (v' := .int .i64 (a0.length : Int)) rfl rfl rfl rfl (len_map _ _) ?_
 refine GX.m rfl ?_
 refine GX.pure (v' := .int .i64 (b1.length : Int)) rfl rfl rfl rfl (len_map _ _) ?_
 refine GX.q (.bool (!decide ((a0.length : Int) = (b1.length : Int)))) ?_
 refine GX.done ?_
 rcases bool_two (decide ((a0.length : Int) = (b1.length : Int))) with hb1 | hb1
 ·rw [hb1]; try simp only [hb1, bb] at hR
  refine WK.condT rfl ?_
  refine WK.sr mixed ?_
  refine GX.m rfl ?_
  refine GX.done ?_
  refine WK.ret ?_
  subst hR
  exact RetQ.fr [] (.inr rfl) rfl rfl rfl rfl
 ·rw [hb1]; try simp only [hb1, bb] at hR
  refine WK.condF rfl ?_
  refine WK.skip ?_
  refine WK.seq ?_
  refine WK.sr mixed ?_
  refine GX.m rfl ?_
  refine GX.done ?_
  refine WK.len (t := 0) rfl (by simp) (fun hlen_2 => ?_)
  rw [List.length_map] at hlen_2
  generalize hZ_2 : F23_crossroadsref13_Keys_l1 b1 0 a0 = Z_2 at hR
  refine WK.forK (fun k s => ∃ (i5 : Nat), i5 ≤ a0.length ∧ k = a0.length - i5 ∧ F23_crossroadsref13_Keys_l1 b1 i5 (a0.drop i5) = Z_2 ∧ s = ⟨[(0, .ro 3 (a0.map TKey.c)), (1, .ro 3 (b1.map TKey.c)), (5, .int .i64 (i5 : Int))], [], 0⟩) a0.length ⟨⟨[(0, .ro 3 (a0.map TKey.c)), (1, .ro 3 (b1.map TKey.c)), (5, .int .i64 (0 : Int))], [], 0⟩, Conv.keep [] [] [0, 1, 5] rfl rfl (viewE_cons rfl rfl (viewE_cons rfl rfl (viewE_cons rfl rfl viewE_nil))) rfl rfl, 0, (by omega), rfl, hZ_2, rfl⟩ ?_
  rintro _ _ ⟨i5, hi_2, rfl, hL_2, rfl⟩ again_2 out_2 Q_2 hagain_2 hout_2 hQ_2
  refine WK.seq ?_
  refine WK.sr mixed ?_
  iterate 2 refine GX.m rfl ?_
  refine GX.pure (v' := .int .i64 (a0.length : Int)) rfl rfl rfl rfl (len_map _ _) ?_
  refine GX.q (.bool (decide ((i5 : Int) < (a0.length : Int)))) ?_
  refine GX.done ?_
  rcases bool_two (decide ((i5 : Int) < (a0.length : Int))) with hb3 | hb3
  ·rw [hb3]
   rw [drop_end hb3, F23_crossroadsref13_Keys_l1] at hL_2
   refine WK.condF rfl ?_
   refine WK.exit ?_
   refine QF.exit (hout_2 _ ?_)
   subst hL_2
   try dsimp only [cond_true, cond_false] at hR
   refine WK.sr mixed ?_
   refine GX.m rfl ?_
   refine GX.done ?_
   refine WK.ret ?_
   subst hR
   exact RetQ.fr [] (.inr rfl) rfl rfl rfl rfl
  ·rw [hb3]
   obtain ⟨x5, hx2, hd2, hlt2⟩ := drop_more hb3
   rw [hd2, F23_crossroadsref13_Keys_l1] at hL_2
   refine WK.condT rfl ?_
   refine WK.skip ?_
   refine WK.seq ?_
   refine WK.blockK (fun _ hK4 => ?_)
   refine WK.seq ?_
   refine WK.drawn mixed ?_
   iterate 2 refine RD.m rfl ?_
   refine RD.idxT (c := TKey.c) (x := x5) rfl rfl rfl (Int.natCast_nonneg _) hx2 ?_
   refine RD.q (.agg (TKey.c x5)) ?_
   iterate 2 refine RD.m rfl ?_
   refine RD.idxT (c := TKey.c) (x := (b1.getD i5 default)) rfl rfl rfl (Int.natCast_nonneg _) (getD_at (by ((try simp only [decide_eq_true_eq, decide_eq_false_iff_not, Bool.not_eq_true, Bool.not_eq_false] at *); first | omega | (rw [wrap64_of (by omega) (by omega)]; omega) | (unfold min_ max_; (repeat' split) <;> first | omega | (rw [wrap64_of (by omega) (by omega)]; omega))))) ?_
   refine RD.q (.agg [.int .i64 ((b1.getD i5 default).Typef), .int .u32 ((b1.getD i5 default).ID), .int .u32 ((b1.getD i5 default).Adv)]) ?_
   refine RD.q (.bool (!(decide (x5.Typef = (b1.getD i5 default).Typef) && (decide (x5.ID = (b1.getD i5 default).ID) && (decide (x5.Adv = (b1.getD i5 default).Adv) && true))))) ?_
   refine RD.done rfl ?_
   rcases bool_two (decide (x5.Typef = (b1.getD i5 default).Typef) && (decide (x5.ID = (b1.getD i5 default).ID) && (decide (x5.Adv = (b1.getD i5 default).Adv) && true))) with hb5 | hb5
   ·rw [hb5]; try simp only [hb5, bb] at hL_2
    refine WK.condT rfl ?_
    refine WK.sr mixed ?_
    refine GX.m rfl ?_
    refine GX.done ?_
    refine WK.ret ?_
    refine QF.ret ?_
    refine QF.ret (hQ_2 _ _ ?_)
    subst hL_2
    subst hR
    exact RetQ.fr [] (.inr rfl) rfl rfl rfl rfl
   ·rw [hb5]; try simp only [hb5, bb] at hL_2
    refine WK.condF rfl ?_
    refine WK.skip ?_
    refine WK.nil (QF.normal (hK4 _ ?_))
    refine WK.regx mixed ?_
    refine GX.m rfl ?_
    refine GX.pure (v' := .int .i64 ((i5 + 1 : Nat) : Int)) rfl rfl rfl rfl (congrArg (PVal.int .i64) (wrap_up hlt2 hlen_2)) ?_
    refine GX.m rfl ?_
    refine GX.done ?_
    refine WK.nil (QF.normal ?_)
    exact hagain_2 _ (a0.length - (i5 + 1)) ⟨[(0, .ro 3 (a0.map TKey.c)), (1, .ro 3 (b1.map TKey.c)), (5, .int .i64 ((i5 + 1) : Int))], [], 0⟩ (by omega) (Conv.keep [] [] [0, 1, 5] rfl rfl (viewE_cons rfl rfl (viewE_cons rfl rfl (viewE_cons rfl rfl viewE_nil))) rfl rfl) ⟨i5 + 1, (by omega), rfl, hL_2, rfl⟩

theorem f73_ok (x0 : List TAd) (target1 : TKey) (gcmp2 : FuncId) (gcmp2f gcmp2c : List PVal) (hcmp2 : TAd → TKey → Int) (gcmp2k : PVal.closed.go gcmp2f = true ∧ PVal.closed.go gcmp2c = true) (gcmp2o : ∀ (y0 : TAd) (y1 : TKey) (R : Int), hcmp2 y0 y1 = R → FnOk Try.prog gcmp2 (gcmp2f ++ [.agg (TAd.c y0), .agg (TKey.c y1)] ++ gcmp2c) [] 0 (.int .i64 R) [] 0) (R : Int × Bool) (hR : F73_slices_BinarySearchFunc x0 target1 hcmp2 = some R) : FnOk Try.prog 73 [.ro 9 (x0.map TAd.c), .agg (TKey.c target1), .fn gcmp2 gcmp2f gcmp2c] [] 0 (.tup [.int .i64 R.1, .bool R.2]) [] 0 := by
 refine FnOk.wk i73 rfl rfl ?_
 unfold F73_slices_BinarySearchFunc at hR
 try dsimp only at hR
 change WK _ _ _ [ac73] _ ⟨[(0, .ro 9 (x0.map TAd.c)), (1, .agg (TKey.c target1)), (2, .fn gcmp2 gcmp2f gcmp2c)], [], 0⟩
 unfold ac73
 refine WK.sr mixed ?_
 refine GX.step (v' := .ptr 0 0) (heap' := [(0, .box (TKey.c target1))]) (next' := 1) rfl rfl rfl rfl rfl rfl rfl ?_
 iterate 2 refine GX.m rfl ?_
 refine GX.done ?_
 refine WK.sr mixed ?_
 refine GX.m rfl ?_
 refine GX.pure (v' := .int .i64 (x0.length : Int)) rfl rfl rfl rfl (len_map _ _) ?_
 refine GX.m rfl ?_
 refine GX.done ?_
 refine WK.sr mixed ?_
 iterate 3 refine GX.m rfl ?_
 refine GX.done ?_
 refine WK.seq ?_
 refine WK.len (t := 0) rfl (by simp) (fun hln0_13 => ?_)
 rw [List.length_map] at hln0_13
 generalize hZ_13 : F73_slices_BinarySearchFunc_l1 x0 target1 hcmp2 100 0 (x0.length : Int) = Z_13 at hR
 refine WK.forK (fun k s => ∃ (i9 : Int) (j10 : Int), F73_slices_BinarySearchFunc_l1 x0 target1 hcmp2 k i9 j10 = Z_13 ∧ s = ⟨[(0, .ro 9 (x0.map TAd.c)), (2, .fn gcmp2 gcmp2f gcmp2c), (4, .ptr 0 0), (8, .int .i64 (x0.length : Int)), (9, .int .i64 i9), (10, .int .i64 j10)], [(0, .box (TKey.c target1))], 1⟩) 100 ⟨⟨[(0, .ro 9 (x0.map TAd.c)), (2, .fn gcmp2 gcmp2f gcmp2c), (4, .ptr 0 0), (8, .int .i64 (x0.length : Int)), (9, .int .i64 0), (10, .int .i64 (x0.length : Int))], [(0, .box (TKey.c target1))], 1⟩, Conv.keep [0] [] [0, 2, 4, 8, 9, 10] rfl rfl (viewE_cons rfl rfl (viewE_cons rfl (viewP_fnc gcmp2k) (viewE_cons rfl rfl (viewE_cons rfl rfl (viewE_cons rfl rfl (viewE_cons rfl rfl viewE_nil)))))) rfl rfl, 0, (x0.length : Int), hZ_13, rfl⟩ ?_
 rintro k13 _ ⟨i9, j10, hL_13, rfl⟩ again_13 out_13 Q_13 hagain_13 hout_13 hQ_13
 rcases k13 with _ | f13
 ·unfold F73_slices_BinarySearchFunc_l1 at hL_13
  try dsimp only at hL_13
  subst hL_13
  try dsimp only at hR
  cases hR
 unfold F73_slices_BinarySearchFunc_l1 at hL_13; try dsimp only at hL_13
 refine WK.seq ?_
 refine WK.sr mixed ?_
 iterate 2 refine GX.m rfl ?_
 refine GX.q (.bool (decide (i9 < j10))) ?_
 refine GX.done ?_
 rcases bool_two (decide (i9 < j10)) with hb14 | hb14
 ·rw [hb14]; try simp only [hb14, bb] at hL_13
  refine WK.condF rfl ?_
  refine WK.exit ?_
  refine QF.exit (hout_13 _ ?_)
  subst hL_13
  try dsimp only [cond_true, cond_false] at hR
  refine WK.seq ?_
  refine WK.drawn mixed ?_
  iterate 3 refine RD.m rfl ?_
  refine RD.q (.bool (decide (i9 < (x0.length : Int)))) ?_
  refine RD.m rfl ?_
  rcases bool_two (decide (i9 < (x0.length : Int))) with hb15 | hb15
  ·rw [hb15]; first | replace hR := cond_f hb15 hR | (try simp only [hb15, bb] at hR)
   iterate 8 refine RD.skip rfl rfl ?_
   refine RD.q (.bool false) ?_
   iterate 2 refine RD.m rfl ?_
   refine RD.done rfl ?_
   refine WK.ret ?_
   obtain rfl := Option.some.inj hR
   exact RetQ.fr [] (.inr rfl) rfl rfl rfl rfl
  ·rw [hb15]; first | replace hR := cond_t hb15 hR | (try simp only [hb15, bb] at hR)
   iterate 3 refine RD.m rfl ?_
   generalize hx915 : getI x0 i9 = x915 at hR
   rcases x915 with _ | x915
   ·try dsimp only at hR
    cases hR
   try dsimp only at hR
   obtain ⟨hx9150, hx915j, hx915l, hx915⟩ := getI_some hx915
   refine RD.idxT (c := TAd.c) (x := x915) rfl rfl rfl hx9150 hx915 ?_
   refine RD.q (.agg (TAd.c x915)) ?_
   refine RD.q (.agg (TKey.c target1)) ?_
   generalize hc46 : hcmp2 x915 target1 = c46 at hR
   try dsimp only at hR
   refine RD.callvp (r := .int .i64 c46) rfl rfl rfl (gcmp2o x915 target1 _ hc46) (closed3 gcmp2k.1 rfl gcmp2k.2) rfl ?_
   iterate 2 refine RD.q (.bool (decide (c46 = 0))) ?_
   iterate 2 refine RD.m rfl ?_
   refine RD.done rfl ?_
   refine WK.ret ?_
   obtain rfl := Option.some.inj hR
   exact RetQ.fr [] (.inr rfl) rfl rfl rfl rfl
 ·rw [hb14]; try simp only [hb14, bb] at hL_13
  refine WK.condT rfl ?_
  refine WK.skip ?_
  refine WK.blockK (fun _ hK17 => ?_)
  refine WK.sr mixed ?_
  iterate 2 refine GX.m rfl ?_
  refine GX.q (.int .i64 (IntKind.i64.wrap (i9 + j10))) ?_
  refine GX.q (.int .u64 (IntKind.u64.wrap (IntKind.i64.wrap (i9 + j10)))) ?_
  refine GX.q (.int .u64 (Int.fdiv (IntKind.u64.wrap (IntKind.i64.wrap (i9 + j10))) (2 ^ 1))) ?_
  refine GX.q (.int .i64 (IntKind.i64.wrap (Int.fdiv (IntKind.u64.wrap (IntKind.i64.wrap (i9 + j10))) (2 ^ 1)))) ?_
  refine GX.m rfl ?_
  refine GX.done ?_
  refine WK.seq ?_
  refine WK.drawn mixed ?_
  iterate 3 refine RD.m rfl ?_
  generalize hx917 : getI x0 (IntKind.i64.wrap (Int.fdiv (IntKind.u64.wrap (IntKind.i64.wrap (i9 + j10))) (2 ^ 1))) = x917 at hL_13
  rcases x917 with _ | x917
  ·try dsimp only at hL_13
   subst hL_13
   try dsimp only at hR
   cases hR
  try dsimp only at hL_13
  obtain ⟨hx9170, hx917j, hx917l, hx917⟩ := getI_some hx917
  refine RD.idxT (c := TAd.c) (x := x917) rfl rfl rfl hx9170 hx917 ?_
  refine RD.q (.agg (TAd.c x917)) ?_
  refine RD.q (.agg (TKey.c target1)) ?_
  generalize hc30 : hcmp2 x917 target1 = c30 at hL_13
  try dsimp only at hL_13
  refine RD.callvp (r := .int .i64 c30) rfl rfl rfl (gcmp2o x917 target1 _ hc30) (closed3 gcmp2k.1 rfl gcmp2k.2) rfl ?_
  refine RD.q (.bool (decide (c30 < 0))) ?_
  refine RD.done rfl ?_
  rcases bool_two (decide (c30 < 0)) with hb19 | hb19
  ·rw [hb19]; try simp only [hb19, bb] at hL_13
   refine WK.condF rfl ?_
   refine WK.regx mixed ?_
   iterate 2 refine GX.m rfl ?_
   refine GX.done ?_
   refine WK.nil (QF.normal (hK17 _ ?_))
   refine WK.nil (QF.normal ?_)
   exact hagain_13 _ f13 ⟨[(0, .ro 9 (x0.map TAd.c)), (2, .fn gcmp2 gcmp2f gcmp2c), (4, .ptr 0 0), (8, .int .i64 (x0.length : Int)), (9, .int .i64 i9), (10, .int .i64 (IntKind.i64.wrap (Int.fdiv (IntKind.u64.wrap (IntKind.i64.wrap (i9 + j10))) (2 ^ 1))))], [(0, .box (TKey.c target1))], 1⟩ (Nat.lt_succ_self _) (Conv.keep [0] [] [0, 2, 4, 8, 9, 10] rfl rfl (viewE_cons rfl rfl (viewE_cons rfl (viewP_fnc gcmp2k) (viewE_cons rfl rfl (viewE_cons rfl rfl (viewE_cons rfl rfl (viewE_cons rfl rfl viewE_nil)))))) rfl rfl) ⟨i9, (IntKind.i64.wrap (Int.fdiv (IntKind.u64.wrap (IntKind.i64.wrap (i9 + j10))) (2 ^ 1))), hL_13, rfl⟩
  ·rw [hb19]; try simp only [hb19, bb] at hL_13
   refine WK.condT rfl ?_
   refine WK.regx mixed ?_
   refine GX.m rfl ?_
   refine GX.q (.int .i64 (IntKind.i64.wrap ((IntKind.i64.wrap (Int.fdiv (IntKind.u64.wrap (IntKind.i64.wrap (i9 + j10))) (2 ^ 1))) + 1))) ?_
   refine GX.m rfl ?_
   refine GX.done ?_
   refine WK.nil (QF.normal (hK17 _ ?_))
   refine WK.nil (QF.normal ?_)
   exact hagain_13 _ f13 ⟨[(0, .ro 9 (x0.map TAd.c)), (2, .fn gcmp2 gcmp2f gcmp2c), (4, .ptr 0 0), (8, .int .i64 (x0.length : Int)), (9, .int .i64 (IntKind.i64.wrap ((IntKind.i64.wrap (Int.fdiv (IntKind.u64.wrap (IntKind.i64.wrap (i9 + j10))) (2 ^ 1))) + 1))), (10, .int .i64 j10)], [(0, .box (TKey.c target1))], 1⟩ (Nat.lt_succ_self _) (Conv.keep [0] [] [0, 2, 4, 8, 9, 10] rfl rfl (viewE_cons rfl rfl (viewE_cons rfl (viewP_fnc gcmp2k) (viewE_cons rfl rfl (viewE_cons rfl rfl (viewE_cons rfl rfl (viewE_cons rfl rfl viewE_nil)))))) rfl rfl) ⟨(IntKind.i64.wrap ((IntKind.i64.wrap (Int.fdiv (IntKind.u64.wrap (IntKind.i64.wrap (i9 + j10))) (2 ^ 1))) + 1)), j10, hL_13, rfl⟩

theorem f40_ok (h0 : THeader) (R : TKey) (hR : F40_lsa_Key h0 = R) : FnOk Try.prog 40 [.agg (THeader.c h0)] [] 0 (.agg (TKey.c R)) [] 0 := by
 refine FnOk.wk i40 rfl rfl ?_
 unfold F40_lsa_Key at hR
 change WK _ _ _ [ac40] _ ⟨[(0, .agg (THeader.c h0))], [], 0⟩
 unfold ac40
 refine WK.sr mixed ?_
 refine GX.step (v' := .ptr 0 0) (heap' := [(0, .box (THeader.c h0))]) (next' := 1) rfl rfl rfl rfl rfl rfl rfl ?_
 refine GX.step (v' := .ptr 1 0) (heap' := [(0, .box (THeader.c h0)), (1, .box [.int .i64 0, .int .u32 0, .int .u32 0])]) (next' := 2) rfl rfl rfl rfl rfl rfl rfl ?_
 refine GX.done ?_
 refine WK.sr mixed ?_
 refine GX.q (.ptr 0 2) ?_
 refine GX.q (.int .i64 h0.Typef) ?_
 refine GX.q (.ptr 0 3) ?_
 refine GX.q (.int .u32 h0.ID) ?_
 refine GX.q (.ptr 0 4) ?_
 refine GX.q (.int .u32 h0.Adv) ?_
 refine GX.q (.agg [.int .i64 h0.Typef, .int .u32 h0.ID, .int .u32 h0.Adv]) ?_
 refine GX.step0 (heap' := [(0, .box (THeader.c h0)), (1, .box [.int .i64 h0.Typef, .int .u32 h0.ID, .int .u32 h0.Adv])]) (next' := 2) rfl rfl rfl rfl rfl ?_
 refine GX.done ?_
 refine WK.ret ?_
 subst hR
 exact RetQ.fr [] (.inr rfl) rfl rfl rfl rfl

theorem f57_ok (l0 : List Int) (R : Int) (hR : F57_lsa_first l0 = R) : FnOk Try.prog 57 [.ro 1 (l0.map c_i64)] [] 0 (.int .i64 R) [] 0 := by
 refine FnOk.wk i57 rfl rfl ?_
 unfold F57_lsa_first at hR
 change WK _ _ _ [ac57] _ ⟨[(0, .ro 1 (l0.map c_i64))], [], 0⟩
 unfold ac57
 refine WK.sr mixed ?_
 refine GX.m rfl ?_
 refine GX.done ?_
 refine WK.seq ?_
 refine WK.sr mixed ?_
 refine GX.m rfl ?_
 refine GX.pure (v' := .int .i64 (l0.length : Int)) rfl rfl rfl rfl (len_map _ _) ?_
 refine GX.m rfl ?_
 refine GX.done ?_
 refine WK.len (t := 0) rfl (by simp) (fun hlen_1 => ?_)
 rw [List.length_map] at hlen_1
 generalize hZ_1 : F57_lsa_first_l1 l0 = Z_1 at hR
 refine WK.forK (fun k s => ∃ (i7 : Nat), i7 ≤ l0.length ∧ k = l0.length - i7 ∧ F57_lsa_first_l1 (l0.drop i7) = Z_1 ∧ s = ⟨[(5, .ro 1 (l0.map c_i64)), (6, .int .i64 (l0.length : Int)), (7, .int .i64 (i7 : Int))], [], 0⟩) l0.length ⟨⟨[(5, .ro 1 (l0.map c_i64)), (6, .int .i64 (l0.length : Int)), (7, .int .i64 (0 : Int))], [], 0⟩, Conv.keep [] [] [5, 6, 7] rfl rfl (viewE_cons rfl rfl (viewE_cons rfl rfl (viewE_cons rfl rfl viewE_nil))) rfl rfl, 0, (by omega), rfl, hZ_1, rfl⟩ ?_
 rintro _ _ ⟨i7, hi_1, rfl, hL_1, rfl⟩ again_1 out_1 Q_1 hagain_1 hout_1 hQ_1
 refine WK.sr mixed ?_
 refine GX.q (.bool (decide ((i7 : Int) < (l0.length : Int)))) ?_
 refine GX.done ?_
 refine WK.seq ?_
 rcases bool_two (decide ((i7 : Int) < (l0.length : Int))) with hb2 | hb2
 ·rw [hb2]
  rw [drop_end hb2, F57_lsa_first_l1] at hL_1
  refine WK.condF rfl ?_
  refine WK.exit ?_
  refine QF.exit (hout_1 _ ?_)
  subst hL_1
  try dsimp only [cond_true, cond_false] at hR
  refine WK.sr mixed ?_
  refine GX.m rfl ?_
  refine GX.done ?_
  refine WK.ret ?_
  subst hR
  exact RetQ.fr [] (.inr rfl) rfl rfl rfl rfl
 ·rw [hb2]
  obtain ⟨x7, hx1, hd1, hlt1⟩ := drop_more hb2
  rw [hd1, F57_lsa_first_l1] at hL_1
  refine WK.condT rfl ?_
  refine WK.skip ?_
  refine WK.seq ?_
  refine WK.blockK (fun _ hK3 => ?_)
  refine WK.sr mixed ?_
  refine GX.idxT (c := c_i64) (x := x7) rfl rfl rfl (Int.natCast_nonneg _) hx1 ?_
  refine GX.q (.int .i64 x7) ?_
  refine GX.m rfl ?_
  refine GX.done ?_
  refine WK.sr mixed ?_
  refine GX.m rfl ?_
  refine GX.q (.bool (!decide (x7 = 0))) ?_
  refine GX.done ?_
  rcases bool_two (decide (x7 = 0)) with hb4 | hb4
  ·rw [hb4]; try simp only [hb4, bb] at hL_1
   refine WK.condT rfl ?_
   refine WK.sr mixed ?_
   iterate 2 refine GX.m rfl ?_
   refine GX.done ?_
   refine WK.ret ?_
   refine QF.ret ?_
   refine QF.ret (hQ_1 _ _ ?_)
   subst hL_1
   subst hR
   exact RetQ.fr [] (.inr rfl) rfl rfl rfl rfl
  ·rw [hb4]; try simp only [hb4, bb] at hL_1
   refine WK.condF rfl ?_
   refine WK.skip ?_
   refine WK.nil (QF.normal (hK3 _ ?_))
   refine WK.regx mixed ?_
   refine GX.pure (v' := .int .i64 ((i7 + 1 : Nat) : Int)) rfl rfl rfl rfl (congrArg (PVal.int .i64) (wrap_up hlt1 hlen_1)) ?_
   refine GX.m rfl ?_
   refine GX.done ?_
   refine WK.nil (QF.normal ?_)
   exact hagain_1 _ (l0.length - (i7 + 1)) ⟨[(5, .ro 1 (l0.map c_i64)), (6, .int .i64 (l0.length : Int)), (7, .int .i64 ((i7 + 1) : Int))], [], 0⟩ (by omega) (Conv.keep [] [] [5, 6, 7] rfl rfl (viewE_cons rfl rfl (viewE_cons rfl rfl (viewE_cons rfl rfl viewE_nil))) rfl rfl) ⟨i7 + 1, (by omega), rfl, hL_1, rfl⟩

theorem f77_ok (x0 : Int) (R : Bool) (hR : F77_cmp_isNaN x0 = R) : FnOk Try.prog 77 [.int .i64 x0] [] 0 (.bool R) [] 0 := by
 refine FnOk.wk i77 rfl rfl ?_
 unfold F77_cmp_isNaN at hR
 change WK _ _ _ [ac77] _ ⟨[(0, .int .i64 x0)], [], 0⟩
 unfold ac77
 refine WK.sr mixed ?_
 refine GX.m rfl ?_
 refine GX.done ?_
 refine WK.sr mixed ?_
 iterate 2 refine GX.m rfl ?_
 refine GX.q (.bool (!decide (x0 = x0))) ?_
 refine GX.m rfl ?_
 refine GX.done ?_
 refine WK.ret ?_
 subst hR
 exact RetQ.fr [] (.inr rfl) rfl rfl rfl rfl

theorem f59_ok (x0 : Int) (y1 : Int) (R : Int) (hR : F59_cmp_Compare x0 y1 = R) : FnOk Try.prog 59 [.int .i64 x0, .int .i64 y1] [] 0 (.int .i64 R) [] 0 := by
 refine FnOk.wk i59 rfl rfl ?_
 unfold F59_cmp_Compare at hR
 change WK _ _ _ [ac59] _ ⟨[(0, .int .i64 x0), (1, .int .i64 y1)], [], 0⟩
 unfold ac59
 refine WK.sr mixed ?_
 refine GX.m rfl ?_
 refine GX.done ?_
 refine WK.sr mixed ?_
 refine GX.m rfl ?_
 generalize hc8 : F77_cmp_isNaN x0 = c8 at hR
 try dsimp only at hR
 refine GX.callp (r := .bool c8) rfl rfl rfl (f77_ok x0 _ hc8) rfl rfl ?_
 refine GX.m rfl ?_
 refine GX.done ?_
 refine WK.sr mixed ?_
 refine GX.m rfl ?_
 generalize hc10 : F77_cmp_isNaN y1 = c10 at hR
 try dsimp only at hR
 refine GX.callp (r := .bool c10) rfl rfl rfl (f77_ok y1 _ hc10) rfl rfl ?_
 refine GX.m rfl ?_
 refine GX.done ?_
 refine WK.seq ?_
 refine WK.sr mixed ?_
 refine GX.m rfl ?_
 refine GX.done ?_
 rcases bool_two (c8) with hb1 | hb1
 ·rw [hb1]; try simp only [hb1, bb] at hR
  refine WK.condF rfl ?_
  refine WK.skip ?_
  refine WK.seq ?_
  refine WK.sr mixed ?_
  refine GX.m rfl ?_
  refine GX.done ?_
  rcases bool_two (c10) with hb2 | hb2
  ·rw [hb2]; try simp only [hb2, bb] at hR
   refine WK.condF rfl ?_
   refine WK.skip ?_
   refine WK.seq ?_
   refine WK.sr mixed ?_
   iterate 2 refine GX.m rfl ?_
   refine GX.q (.bool (decide (x0 < y1))) ?_
   refine GX.done ?_
   rcases bool_two (decide (x0 < y1)) with hb3 | hb3
   ·rw [hb3]; try simp only [hb3, bb] at hR
    refine WK.condF rfl ?_
    refine WK.skip ?_
    refine WK.seq ?_
    refine WK.sr mixed ?_
    iterate 2 refine GX.m rfl ?_
    refine GX.q (.bool (decide (y1 < x0))) ?_
    refine GX.done ?_
    rcases bool_two (decide (y1 < x0)) with hb4 | hb4
    ·rw [hb4]; try simp only [hb4, bb] at hR
     refine WK.condF rfl ?_
     refine WK.skip ?_
     refine WK.sr mixed ?_
     refine GX.m rfl ?_
     refine GX.done ?_
     refine WK.ret ?_
     subst hR
     exact RetQ.fr [] (.inr rfl) rfl rfl rfl rfl
    ·rw [hb4]; try simp only [hb4, bb] at hR
     refine WK.condT rfl ?_
     refine WK.sr mixed ?_
     refine GX.m rfl ?_
     refine GX.done ?_
     refine WK.ret ?_
     subst hR
     exact RetQ.fr [] (.inr rfl) rfl rfl rfl rfl
   ·rw [hb3]; try simp only [hb3, bb] at hR
    refine WK.condT rfl ?_
    refine WK.sr mixed ?_
    refine GX.m rfl ?_
    refine GX.done ?_
    refine WK.ret ?_
    subst hR
    exact RetQ.fr [] (.inr rfl) rfl rfl rfl rfl
  ·rw [hb2]; try simp only [hb2, bb] at hR
   refine WK.condT rfl ?_
   refine WK.sr mixed ?_
   refine GX.m rfl ?_
   refine GX.done ?_
   refine WK.ret ?_
   subst hR
   exact RetQ.fr [] (.inr rfl) rfl rfl rfl rfl
 ·rw [hb1]; try simp only [hb1, bb] at hR
  refine WK.condT rfl ?_
  refine WK.seq ?_
  refine WK.sr mixed ?_
  refine GX.m rfl ?_
  refine GX.done ?_
  rcases bool_two (c10) with hb5 | hb5
  ·rw [hb5]; try simp only [hb5, bb] at hR
   refine WK.condF rfl ?_
   refine WK.skip ?_
   refine WK.sr mixed ?_
   refine GX.m rfl ?_
   refine GX.done ?_
   refine WK.ret ?_
   subst hR
   exact RetQ.fr [] (.inr rfl) rfl rfl rfl rfl
  ·rw [hb5]; try simp only [hb5, bb] at hR
   refine WK.condT rfl ?_
   refine WK.sr mixed ?_
   refine GX.m rfl ?_
   refine GX.done ?_
   refine WK.ret ?_
   subst hR
   exact RetQ.fr [] (.inr rfl) rfl rfl rfl rfl

theorem f85_ok (x0 : Int) (R : Bool) (hR : F85_cmp_isNaN x0 = R) : FnOk Try.prog 85 [.int .u32 x0] [] 0 (.bool R) [] 0 := by
 refine FnOk.wk i85 rfl rfl ?_
 unfold F85_cmp_isNaN at hR
 change WK _ _ _ [ac85] _ ⟨[(0, .int .u32 x0)], [], 0⟩
 unfold ac85
 refine WK.sr mixed ?_
 refine GX.m rfl ?_
 refine GX.done ?_
 refine WK.sr mixed ?_
 iterate 2 refine GX.m rfl ?_
 refine GX.q (.bool (!decide (x0 = x0))) ?_
 refine GX.m rfl ?_
 refine GX.done ?_
 refine WK.ret ?_
 subst hR
 exact RetQ.fr [] (.inr rfl) rfl rfl rfl rfl

theorem f82_ok (x0 : Int) (y1 : Int) (R : Int) (hR : F82_cmp_Compare x0 y1 = R) : FnOk Try.prog 82 [.int .u32 x0, .int .u32 y1] [] 0 (.int .i64 R) [] 0 := by
 refine FnOk.wk i82 rfl rfl ?_
 unfold F82_cmp_Compare at hR
 change WK _ _ _ [ac82] _ ⟨[(0, .int .u32 x0), (1, .int .u32 y1)], [], 0⟩
 unfold ac82
 refine WK.sr mixed ?_
 refine GX.m rfl ?_
 refine GX.done ?_
 refine WK.sr mixed ?_
 refine GX.m rfl ?_
 generalize hc8 : F85_cmp_isNaN x0 = c8 at hR
 try dsimp only at hR
 refine GX.callp (r := .bool c8) rfl rfl rfl (f85_ok x0 _ hc8) rfl rfl ?_
 refine GX.m rfl ?_
 refine GX.done ?_
 refine WK.sr mixed ?_
 refine GX.m rfl ?_
 generalize hc10 : F85_cmp_isNaN y1 = c10 at hR
 try dsimp only at hR
 refine GX.callp (r := .bool c10) rfl rfl rfl (f85_ok y1 _ hc10) rfl rfl ?_
 refine GX.m rfl ?_
 refine GX.done ?_
 refine WK.seq ?_
 refine WK.sr mixed ?_
 refine GX.m rfl ?_
 refine GX.done ?_
 rcases bool_two (c8) with hb1 | hb1
 ·rw [hb1]; try simp only [hb1, bb] at hR
  refine WK.condF rfl ?_
  refine WK.skip ?_
  refine WK.seq ?_
  refine WK.sr mixed ?_
  refine GX.m rfl ?_
  refine GX.done ?_
  rcases bool_two (c10) with hb2 | hb2
  ·rw [hb2]; try simp only [hb2, bb] at hR
   refine WK.condF rfl ?_
   refine WK.skip ?_
   refine WK.seq ?_
   refine WK.sr mixed ?_
   iterate 2 refine GX.m rfl ?_
   refine GX.q (.bool (decide (x0 < y1))) ?_
   refine GX.done ?_
   rcases bool_two (decide (x0 < y1)) with hb3 | hb3
   ·rw [hb3]; try simp only [hb3, bb] at hR
    refine WK.condF rfl ?_
    refine WK.skip ?_
    refine WK.seq ?_
    refine WK.sr mixed ?_
    iterate 2 refine GX.m rfl ?_
    refine GX.q (.bool (decide (y1 < x0))) ?_
    refine GX.done ?_
    rcases bool_two (decide (y1 < x0)) with hb4 | hb4
    ·rw [hb4]; try simp only [hb4, bb] at hR
     refine WK.condF rfl ?_
     refine WK.skip ?_
     refine WK.sr mixed ?_
     refine GX.m rfl ?_
     refine GX.done ?_
     refine WK.ret ?_
     subst hR
     exact RetQ.fr [] (.inr rfl) rfl rfl rfl rfl
    ·rw [hb4]; try simp only [hb4, bb] at hR
     refine WK.condT rfl ?_
     refine WK.sr mixed ?_
     refine GX.m rfl ?_
     refine GX.done ?_
     refine WK.ret ?_
     subst hR
     exact RetQ.fr [] (.inr rfl) rfl rfl rfl rfl
   ·rw [hb3]; try simp only [hb3, bb] at hR
    refine WK.condT rfl ?_
    refine WK.sr mixed ?_
    refine GX.m rfl ?_
    refine GX.done ?_
    refine WK.ret ?_
    subst hR
    exact RetQ.fr [] (.inr rfl) rfl rfl rfl rfl
  ·rw [hb2]; try simp only [hb2, bb] at hR
   refine WK.condT rfl ?_
   refine WK.sr mixed ?_
   refine GX.m rfl ?_
   refine GX.done ?_
   refine WK.ret ?_
   subst hR
   exact RetQ.fr [] (.inr rfl) rfl rfl rfl rfl
 ·rw [hb1]; try simp only [hb1, bb] at hR
  refine WK.condT rfl ?_
  refine WK.seq ?_
  refine WK.sr mixed ?_
  refine GX.m rfl ?_
  refine GX.done ?_
  rcases bool_two (c10) with hb5 | hb5
  ·rw [hb5]; try simp only [hb5, bb] at hR
   refine WK.condF rfl ?_
   refine WK.skip ?_
   refine WK.sr mixed ?_
   refine GX.m rfl ?_
   refine GX.done ?_
   refine WK.ret ?_
   subst hR
   exact RetQ.fr [] (.inr rfl) rfl rfl rfl rfl
  ·rw [hb5]; try simp only [hb5, bb] at hR
   refine WK.condT rfl ?_
   refine WK.sr mixed ?_
   refine GX.m rfl ?_
   refine GX.done ?_
   refine WK.ret ?_
   subst hR
   exact RetQ.fr [] (.inr rfl) rfl rfl rfl rfl

theorem f75_ok (a0 : TKey) (b1 : TKey) (R : Bool) (hR : F75_lsa_Less a0 b1 = R) : FnOk Try.prog 75 [.agg (TKey.c a0), .agg (TKey.c b1)] [] 0 (.bool R) [] 0 := by
 refine FnOk.wk i75 rfl rfl ?_
 unfold F75_lsa_Less at hR
 change WK _ _ _ [ac75] _ ⟨[(0, .agg (TKey.c a0)), (1, .agg (TKey.c b1))], [], 0⟩
 unfold ac75
 refine WK.sr mixed ?_
 refine GX.step (v' := .ptr 0 0) (heap' := [(0, .box (TKey.c a0))]) (next' := 1) rfl rfl rfl rfl rfl rfl rfl ?_
 refine GX.step (v' := .ptr 1 0) (heap' := [(0, .box (TKey.c a0)), (1, .box (TKey.c b1))]) (next' := 2) rfl rfl rfl rfl rfl rfl rfl ?_
 refine GX.m rfl ?_
 refine GX.done ?_
 refine WK.seq ?_
 refine WK.drawn mixed ?_
 refine RD.q (.ptr 0 0) ?_
 refine RD.q (.int .i64 a0.Typef) ?_
 refine RD.q (.ptr 1 0) ?_
 refine RD.q (.int .i64 b1.Typef) ?_
 generalize hc9 : F59_cmp_Compare a0.Typef b1.Typef = c9 at hR
 try dsimp only at hR
 refine RD.callp (r := .int .i64 c9) rfl rfl rfl (f59_ok a0.Typef b1.Typef _ hc9) rfl rfl ?_
 refine RD.q (.ptr 0 1) ?_
 refine RD.q (.int .u32 a0.ID) ?_
 refine RD.q (.ptr 1 1) ?_
 refine RD.q (.int .u32 b1.ID) ?_
 generalize hc14 : F82_cmp_Compare a0.ID b1.ID = c14 at hR
 try dsimp only at hR
 refine RD.callp (r := .int .i64 c14) rfl rfl rfl (f82_ok a0.ID b1.ID _ hc14) rfl rfl ?_
 refine RD.q (.ptr 0 2) ?_
 refine RD.q (.int .u32 a0.Adv) ?_
 refine RD.q (.ptr 1 2) ?_
 refine RD.q (.int .u32 b1.Adv) ?_
 generalize hc19 : F82_cmp_Compare a0.Adv b1.Adv = c19 at hR
 try dsimp only at hR
 refine RD.callp (r := .int .i64 c19) rfl rfl rfl (f82_ok a0.Adv b1.Adv _ hc19) rfl rfl ?_
 refine RD.step (v' := .own 2 1 0 (([c9, c14, c19] : List Int)).length) (heap' := [(0, .box (TKey.c a0)), (1, .box (TKey.c b1)), (2, .row 1 3 (([c9, c14, c19] : List Int).map c_i64))]) (next' := 3) rfl rfl rfl rfl rfl rfl rfl ?_
 generalize hc21 : F57_lsa_first ([c9, c14, c19] : List Int) = c21 at hR
 try dsimp only at hR
 refine RD.callbp (r := .int .i64 c21) [2] rfl rfl rfl (viewGo_cons (view_rowT rfl rfl) viewGo_nil) (f57_ok ([c9, c14, c19] : List Int) _ hc21) rfl rfl ?_
 refine RD.q (.bool (decide (c21 < 0))) ?_
 refine RD.m rfl ?_
 refine RD.done rfl ?_
 refine WK.ret ?_
 subst hR
 exact RetQ.fr [] (.inr rfl) rfl rfl rfl rfl

theorem f74_ok (a0 : TAd) (k1 : TKey) (R : Int) (hR : F74_store_Store_at_1 a0 k1 = R) : FnOk Try.prog 74 [.agg (TAd.c a0), .agg (TKey.c k1)] [] 0 (.int .i64 R) [] 0 := by
 refine FnOk.wk i74 rfl rfl ?_
 unfold F74_store_Store_at_1 at hR
 change WK _ _ _ [ac74] _ ⟨[(0, .agg (TAd.c a0)), (1, .agg (TKey.c k1))], [], 0⟩
 unfold ac74
 refine WK.sr mixed ?_
 refine GX.step (v' := .ptr 0 0) (heap' := [(0, .box (TAd.c a0))]) (next' := 1) rfl rfl rfl rfl rfl rfl rfl ?_
 refine GX.step (v' := .ptr 1 0) (heap' := [(0, .box (TAd.c a0)), (1, .box (TKey.c k1))]) (next' := 2) rfl rfl rfl rfl rfl rfl rfl ?_
 refine GX.m rfl ?_
 refine GX.done ?_
 refine WK.sr mixed ?_
 refine GX.q (.ptr 0 0) ?_
 refine GX.q (.agg [.int .i64 a0.H.Age, .int .i64 a0.H.Options, .int .i64 a0.H.Typef, .int .u32 a0.H.ID, .int .u32 a0.H.Adv, .int .u32 a0.H.Seq, .int .i64 a0.H.Sum, .int .i64 a0.H.Long]) ?_
 generalize hc8 : F40_lsa_Key a0.H = c8 at hR
 try dsimp only at hR
 refine GX.callp (r := .agg [.int .i64 c8.Typef, .int .u32 c8.ID, .int .u32 c8.Adv]) rfl rfl rfl (f40_ok a0.H _ hc8) rfl rfl ?_
 refine GX.step (v' := .ptr 2 0) (heap' := [(0, .box (TAd.c a0)), (1, .box (TKey.c k1)), (2, .box [.int .i64 0, .int .u32 0, .int .u32 0])]) (next' := 3) rfl rfl rfl rfl rfl rfl rfl ?_
 refine GX.step0 (heap' := [(0, .box (TAd.c a0)), (1, .box (TKey.c k1)), (2, .box (TKey.c c8))]) (next' := 3) rfl rfl rfl rfl rfl ?_
 refine GX.done ?_
 refine WK.seq ?_
 refine WK.blockK (fun _ hK1 => ?_)
 refine WK.sr mixed ?_
 refine GX.q (.agg (TKey.c c8)) ?_
 refine GX.q (.agg (TKey.c k1)) ?_
 generalize hc12 : F75_lsa_Less c8 k1 = c12 at hR
 try dsimp only at hR
 refine GX.callp (r := .bool c12) rfl rfl rfl (f75_ok c8 k1 _ hc12) rfl rfl ?_
 refine GX.m rfl ?_
 refine GX.done ?_
 rcases bool_two (c12) with hb2 | hb2
 ·rw [hb2]; try simp only [hb2, bb] at hR
  refine WK.condF rfl ?_
  refine WK.sr mixed ?_
  refine GX.q (.agg (TKey.c k1)) ?_
  refine GX.q (.agg (TKey.c c8)) ?_
  generalize hc16 : F75_lsa_Less k1 c8 = c16 at hR
  try dsimp only at hR
  refine GX.callp (r := .bool c16) rfl rfl rfl (f75_ok k1 c8 _ hc16) rfl rfl ?_
  refine GX.m rfl ?_
  refine GX.done ?_
  rcases bool_two (c16) with hb3 | hb3
  ·rw [hb3]; try simp only [hb3, bb] at hR
   refine WK.condF rfl ?_
   refine WK.skip ?_
   refine WK.nil (QF.normal (hK1 _ ?_))
   refine WK.sr mixed ?_
   refine GX.m rfl ?_
   refine GX.done ?_
   refine WK.ret ?_
   subst hR
   exact RetQ.fr [] (.inr rfl) rfl rfl rfl rfl
  ·rw [hb3]; try simp only [hb3, bb] at hR
   refine WK.condT rfl ?_
   refine WK.sr mixed ?_
   refine GX.m rfl ?_
   refine GX.done ?_
   refine WK.ret ?_
   refine QF.ret ?_
   subst hR
   exact RetQ.fr [] (.inr rfl) rfl rfl rfl rfl
 ·rw [hb2]; try simp only [hb2, bb] at hR
  refine WK.condT rfl ?_
  refine WK.sr mixed ?_
  refine GX.m rfl ?_
  refine GX.done ?_
  refine WK.ret ?_
  refine QF.ret ?_
  subst hR
  exact RetQ.fr [] (.inr rfl) rfl rfl rfl rfl

theorem f56_ok (s0 : TStore) (k1 : TKey) (R : Int × Bool) (hR : F56_store_Store_at s0 k1 = some R) : FnOk Try.prog 56 [.agg (TStore.c s0), .agg (TKey.c k1)] [] 0 (.tup [.int .i64 R.1, .bool R.2]) [] 0 := by
 refine FnOk.wk i56 rfl rfl ?_
 unfold F56_store_Store_at at hR
 try dsimp only at hR
 change WK _ _ _ [ac56] _ ⟨[(0, .agg (TStore.c s0)), (1, .agg (TKey.c k1))], [], 0⟩
 unfold ac56
 refine WK.sr mixed ?_
 refine GX.step (v' := .ptr 0 0) (heap' := [(0, .box (TStore.c s0))]) (next' := 1) rfl rfl rfl rfl rfl rfl rfl ?_
 refine GX.step (v' := .ptr 1 0) (heap' := [(0, .box (TStore.c s0)), (1, .box (TKey.c k1))]) (next' := 2) rfl rfl rfl rfl rfl rfl rfl ?_
 iterate 2 refine GX.m rfl ?_
 refine GX.done ?_
 refine WK.sr mixed ?_
 refine GX.q (.ptr 0 1) ?_
 refine GX.q (.ro 9 (s0.L.map TAd.c)) ?_
 refine GX.q (.agg (TKey.c k1)) ?_
 generalize hc9 : F73_slices_BinarySearchFunc s0.L k1 (fun y0 y1 => F74_store_Store_at_1 y0 y1) = c9 at hR
 rcases c9 with _ | c9
 ·try dsimp only at hR
  cases hR
 try dsimp only at hR
 obtain ⟨c9a, c9b⟩ := c9; try dsimp only at hR
 refine GX.callp (r := .tup [.int .i64 c9a, .bool c9b]) rfl rfl rfl (f73_ok s0.L k1 74 [] [] (fun y0 y1 => F74_store_Store_at_1 y0 y1) ⟨rfl, rfl⟩ (fun y0 y1 _ hr => f74_ok y0 y1 _ hr) _ hc9) rfl rfl ?_
 refine GX.q (.int .i64 c9a) ?_
 refine GX.q (.bool c9b) ?_
 iterate 2 refine GX.m rfl ?_
 refine GX.done ?_
 refine WK.ret ?_
 obtain rfl := Option.some.inj hR
 exact RetQ.fr [] (.inr rfl) rfl rfl rfl rfl

theorem f39_ok (s0 : TStore) (k1 : TKey) (R : TAd × Bool) (hR : F39_store_Find s0 k1 = some R) : FnOk Try.prog 39 [.agg (TStore.c s0), .agg (TKey.c k1)] [] 0 (.tup [.agg (TAd.c R.1), .bool R.2]) [] 0 := by
 refine FnOk.wk i39 rfl rfl ?_
 unfold F39_store_Find at hR
 try dsimp only at hR
 change WK _ _ _ [ac39] _ ⟨[(0, .agg (TStore.c s0)), (1, .agg (TKey.c k1))], [], 0⟩
 unfold ac39
 refine WK.sr mixed ?_
 refine GX.step (v' := .ptr 0 0) (heap' := [(0, .box (TStore.c s0))]) (next' := 1) rfl rfl rfl rfl rfl rfl rfl ?_
 refine GX.step (v' := .ptr 1 0) (heap' := [(0, .box (TStore.c s0)), (1, .box (TKey.c k1))]) (next' := 2) rfl rfl rfl rfl rfl rfl rfl ?_
 refine GX.step (v' := .ptr 2 0) (heap' := [(0, .box (TStore.c s0)), (1, .box (TKey.c k1)), (2, .box [.int .i64 0, .int .i64 0, .int .i64 0, .int .u32 0, .int .u32 0, .int .u32 0, .int .i64 0, .int .i64 0, .nils])]) (next' := 3) rfl rfl rfl rfl rfl rfl rfl ?_
 refine GX.m rfl ?_
 refine GX.done ?_
 refine WK.sr mixed ?_
 refine GX.q (.agg (TStore.c s0)) ?_
 refine GX.q (.agg (TKey.c k1)) ?_
 generalize hc11 : F56_store_Store_at s0 k1 = c11 at hR
 rcases c11 with _ | c11
 ·try dsimp only at hR
  cases hR
 try dsimp only at hR
 obtain ⟨c11a, c11b⟩ := c11; try dsimp only at hR
 refine GX.callp (r := .tup [.int .i64 c11a, .bool c11b]) rfl rfl rfl (f56_ok s0 k1 _ hc11) rfl rfl ?_
 refine GX.m rfl ?_
 refine GX.q (.int .i64 c11a) ?_
 refine GX.q (.bool c11b) ?_
 iterate 2 refine GX.m rfl ?_
 refine GX.done ?_
 refine WK.seq ?_
 refine WK.sr mixed ?_
 refine GX.m rfl ?_
 refine GX.q (.bool (!c11b)) ?_
 refine GX.done ?_
 rcases bool_two (c11b) with hb1 | hb1
 ·rw [hb1]; first | replace hR := cond_f hb1 hR | (try simp only [hb1, bb] at hR)
  refine WK.condT rfl ?_
  refine WK.sr mixed ?_
  refine GX.q (.agg [.int .i64 0, .int .i64 0, .int .i64 0, .int .u32 0, .int .u32 0, .int .u32 0, .int .i64 0, .int .i64 0, .nils]) ?_
  refine GX.step0 (heap' := [(0, .box (TStore.c s0)), (1, .box (TKey.c k1)), (2, .box [.int .i64 0, .int .i64 0, .int .i64 0, .int .u32 0, .int .u32 0, .int .u32 0, .int .i64 0, .int .i64 0, .nils])]) (next' := 3) rfl rfl rfl rfl rfl ?_
  refine GX.m rfl ?_
  refine GX.done ?_
  refine WK.ret ?_
  obtain rfl := Option.some.inj hR
  exact RetQ.frw [] (.inr rfl) rfl rfl rfl (.tup (.cons (.agg (.cons .refl (.cons .refl (.cons .refl (.cons .refl (.cons .refl (.cons .refl (.cons .refl (.cons .refl (.cons .nil .refl)))))))))) .refl))
 ·rw [hb1]; first | replace hR := cond_t hb1 hR | (try simp only [hb1, bb] at hR)
  refine WK.condF rfl ?_
  refine WK.skip ?_
  refine WK.sr mixed ?_
  refine GX.q (.ptr 0 1) ?_
  refine GX.q (.ro 9 (s0.L.map TAd.c)) ?_
  refine GX.m rfl ?_
  generalize hx901 : getI s0.L c11a = x901 at hR
  rcases x901 with _ | x901
  ·try dsimp only at hR
   cases hR
  try dsimp only at hR
  obtain ⟨hx9010, hx901j, hx901l, hx901⟩ := getI_some hx901
  refine GX.idxT (c := TAd.c) (x := x901) rfl rfl rfl hx9010 hx901 ?_
  refine GX.q (.agg (TAd.c x901)) ?_
  refine GX.step0 (heap' := [(0, .box (TStore.c s0)), (1, .box (TKey.c k1)), (2, .box (TAd.c x901))]) (next' := 3) rfl rfl rfl rfl rfl ?_
  refine GX.m rfl ?_
  refine GX.done ?_
  refine WK.ret ?_
  obtain rfl := Option.some.inj hR
  exact RetQ.fr [] (.inr rfl) rfl rfl rfl rfl

theorem f76_ok (x0 : Int) (R : Bool) (hR : F76_cmp_isNaN x0 = R) : FnOk Try.prog 76 [.int .i32 x0] [] 0 (.bool R) [] 0 := by
 refine FnOk.wk i76 rfl rfl ?_
 unfold F76_cmp_isNaN at hR
 change WK _ _ _ [ac76] _ ⟨[(0, .int .i32 x0)], [], 0⟩
 unfold ac76
 refine WK.sr mixed ?_
 refine GX.m rfl ?_
 refine GX.done ?_
 refine WK.sr mixed ?_
 iterate 2 refine GX.m rfl ?_
 refine GX.q (.bool (!decide (x0 = x0))) ?_
 refine GX.m rfl ?_
 refine GX.done ?_
 refine WK.ret ?_
 subst hR
 exact RetQ.fr [] (.inr rfl) rfl rfl rfl rfl

theorem f58_ok (x0 : Int) (y1 : Int) (R : Int) (hR : F58_cmp_Compare x0 y1 = R) : FnOk Try.prog 58 [.int .i32 x0, .int .i32 y1] [] 0 (.int .i64 R) [] 0 := by
 refine FnOk.wk i58 rfl rfl ?_
 unfold F58_cmp_Compare at hR
 change WK _ _ _ [ac58] _ ⟨[(0, .int .i32 x0), (1, .int .i32 y1)], [], 0⟩
 unfold ac58
 refine WK.sr mixed ?_
 refine GX.m rfl ?_
 refine GX.done ?_
 refine WK.sr mixed ?_
 refine GX.m rfl ?_
 generalize hc8 : F76_cmp_isNaN x0 = c8 at hR
 try dsimp only at hR
 refine GX.callp (r := .bool c8) rfl rfl rfl (f76_ok x0 _ hc8) rfl rfl ?_
 refine GX.m rfl ?_
 refine GX.done ?_
 refine WK.sr mixed ?_
 refine GX.m rfl ?_
 generalize hc10 : F76_cmp_isNaN y1 = c10 at hR
 try dsimp only at hR
 refine GX.callp (r := .bool c10) rfl rfl rfl (f76_ok y1 _ hc10) rfl rfl ?_
 refine GX.m rfl ?_
 refine GX.done ?_
 refine WK.seq ?_
 refine WK.sr mixed ?_
 refine GX.m rfl ?_
 refine GX.done ?_
 rcases bool_two (c8) with hb1 | hb1
 ·rw [hb1]; try simp only [hb1, bb] at hR
  refine WK.condF rfl ?_
  refine WK.skip ?_
  refine WK.seq ?_
  refine WK.sr mixed ?_
  refine GX.m rfl ?_
  refine GX.done ?_
  rcases bool_two (c10) with hb2 | hb2
  ·rw [hb2]; try simp only [hb2, bb] at hR
   refine WK.condF rfl ?_
   refine WK.skip ?_
   refine WK.seq ?_
   refine WK.sr mixed ?_
   iterate 2 refine GX.m rfl ?_
   refine GX.q (.bool (decide (x0 < y1))) ?_
   refine GX.done ?_
   rcases bool_two (decide (x0 < y1)) with hb3 | hb3
   ·rw [hb3]; try simp only [hb3, bb] at hR
    refine WK.condF rfl ?_
    refine WK.skip ?_
    refine WK.seq ?_
    refine WK.sr mixed ?_
    iterate 2 refine GX.m rfl ?_
    refine GX.q (.bool (decide (y1 < x0))) ?_
    refine GX.done ?_
    rcases bool_two (decide (y1 < x0)) with hb4 | hb4
    ·rw [hb4]; try simp only [hb4, bb] at hR
     refine WK.condF rfl ?_
     refine WK.skip ?_
     refine WK.sr mixed ?_
     refine GX.m rfl ?_
     refine GX.done ?_
     refine WK.ret ?_
     subst hR
     exact RetQ.fr [] (.inr rfl) rfl rfl rfl rfl
    ·rw [hb4]; try simp only [hb4, bb] at hR
     refine WK.condT rfl ?_
     refine WK.sr mixed ?_
     refine GX.m rfl ?_
     refine GX.done ?_
     refine WK.ret ?_
     subst hR
     exact RetQ.fr [] (.inr rfl) rfl rfl rfl rfl
   ·rw [hb3]; try simp only [hb3, bb] at hR
    refine WK.condT rfl ?_
    refine WK.sr mixed ?_
    refine GX.m rfl ?_
    refine GX.done ?_
    refine WK.ret ?_
    subst hR
    exact RetQ.fr [] (.inr rfl) rfl rfl rfl rfl
  ·rw [hb2]; try simp only [hb2, bb] at hR
   refine WK.condT rfl ?_
   refine WK.sr mixed ?_
   refine GX.m rfl ?_
   refine GX.done ?_
   refine WK.ret ?_
   subst hR
   exact RetQ.fr [] (.inr rfl) rfl rfl rfl rfl
 ·rw [hb1]; try simp only [hb1, bb] at hR
  refine WK.condT rfl ?_
  refine WK.seq ?_
  refine WK.sr mixed ?_
  refine GX.m rfl ?_
  refine GX.done ?_
  rcases bool_two (c10) with hb5 | hb5
  ·rw [hb5]; try simp only [hb5, bb] at hR
   refine WK.condF rfl ?_
   refine WK.skip ?_
   refine WK.sr mixed ?_
   refine GX.m rfl ?_
   refine GX.done ?_
   refine WK.ret ?_
   subst hR
   exact RetQ.fr [] (.inr rfl) rfl rfl rfl rfl
  ·rw [hb5]; try simp only [hb5, bb] at hR
   refine WK.condT rfl ?_
   refine WK.sr mixed ?_
   refine GX.m rfl ?_
   refine GX.done ?_
   refine WK.ret ?_
   subst hR
   exact RetQ.fr [] (.inr rfl) rfl rfl rfl rfl

theorem f60_ok (h0 : THeader) (R : Int) (hR : F60_lsa_old h0 = R) : FnOk Try.prog 60 [.agg (THeader.c h0)] [] 0 (.int .i64 R) [] 0 := by
 refine FnOk.wk i60 rfl rfl ?_
 unfold F60_lsa_old at hR
 change WK _ _ _ [ac60] _ ⟨[(0, .agg (THeader.c h0))], [], 0⟩
 unfold ac60
 refine WK.sr mixed ?_
 refine GX.step (v' := .ptr 0 0) (heap' := [(0, .box (THeader.c h0))]) (next' := 1) rfl rfl rfl rfl rfl rfl rfl ?_
 refine GX.m rfl ?_
 refine GX.done ?_
 refine WK.seq ?_
 refine WK.sr mixed ?_
 refine GX.q (.ptr 0 0) ?_
 refine GX.q (.int .i64 h0.Age) ?_
 refine GX.q (.bool (decide (h0.Age = 3600))) ?_
 refine GX.done ?_
 rcases bool_two (decide (h0.Age = 3600)) with hb1 | hb1
 ·rw [hb1]; try simp only [hb1, bb] at hR
  refine WK.condF rfl ?_
  refine WK.skip ?_
  refine WK.sr mixed ?_
  refine GX.m rfl ?_
  refine GX.done ?_
  refine WK.ret ?_
  subst hR
  exact RetQ.fr [] (.inr rfl) rfl rfl rfl rfl
 ·rw [hb1]; try simp only [hb1, bb] at hR
  refine WK.condT rfl ?_
  refine WK.sr mixed ?_
  refine GX.m rfl ?_
  refine GX.done ?_
  refine WK.ret ?_
  subst hR
  exact RetQ.fr [] (.inr rfl) rfl rfl rfl rfl

theorem f78_ok (n0 : Int) (low1 : Int) (high2 : Int) (R : Bool) (hR : F78_lsa_isIn n0 low1 high2 = R) : FnOk Try.prog 78 [.int .i64 n0, .int .i64 low1, .int .i64 high2] [] 0 (.bool R) [] 0 := by
 refine FnOk.wk i78 rfl rfl ?_
 unfold F78_lsa_isIn at hR
 change WK _ _ _ [ac78] _ ⟨[(0, .int .i64 n0), (1, .int .i64 low1), (2, .int .i64 high2)], [], 0⟩
 unfold ac78
 refine WK.sr mixed ?_
 refine GX.m rfl ?_
 refine GX.done ?_
 refine WK.sr mixed ?_
 iterate 2 refine GX.m rfl ?_
 refine GX.q (.bool (decide (low1 ≤ n0))) ?_
 refine GX.m rfl ?_
 rcases bool_two (decide (low1 ≤ n0)) with hb1 | hb1
 ·rw [hb1]; try simp only [hb1, bb] at hR
  iterate 3 refine GX.skip rfl rfl ?_
  refine GX.q (.bool false) ?_
  refine GX.m rfl ?_
  refine GX.done ?_
  refine WK.ret ?_
  subst hR
  exact RetQ.fr [] (.inr rfl) rfl rfl rfl rfl
 ·rw [hb1]; try simp only [hb1, bb] at hR
  iterate 2 refine GX.m rfl ?_
  iterate 2 refine GX.q (.bool (decide (n0 ≤ high2))) ?_
  refine GX.m rfl ?_
  refine GX.done ?_
  refine WK.ret ?_
  subst hR
  exact RetQ.fr [] (.inr rfl) rfl rfl rfl rfl

theorem f61_ok (a0 : THeader) (b1 : THeader) (R : Int) (hR : F61_lsa_younger a0 b1 = R) : FnOk Try.prog 61 [.agg (THeader.c a0), .agg (THeader.c b1)] [] 0 (.int .i64 R) [] 0 := by
 refine FnOk.wk i61 rfl rfl ?_
 unfold F61_lsa_younger at hR
 change WK _ _ _ [ac61] _ ⟨[(0, .agg (THeader.c a0)), (1, .agg (THeader.c b1))], [], 0⟩
 unfold ac61
 refine WK.sr mixed ?_
 refine GX.step (v' := .ptr 0 0) (heap' := [(0, .box (THeader.c a0))]) (next' := 1) rfl rfl rfl rfl rfl rfl rfl ?_
 refine GX.step (v' := .ptr 1 0) (heap' := [(0, .box (THeader.c a0)), (1, .box (THeader.c b1))]) (next' := 2) rfl rfl rfl rfl rfl rfl rfl ?_
 refine GX.m rfl ?_
 refine GX.done ?_
 refine WK.seq ?_
 refine WK.sr mixed ?_
 refine GX.q (.ptr 0 0) ?_
 refine GX.q (.int .i64 a0.Age) ?_
 refine GX.q (.ptr 1 0) ?_
 refine GX.q (.int .i64 b1.Age) ?_
 refine GX.q (.int .i64 (IntKind.i64.wrap (a0.Age - b1.Age))) ?_
 generalize hc10 : F78_lsa_isIn (IntKind.i64.wrap (a0.Age - b1.Age)) (-900) 900 = c10 at hR
 try dsimp only at hR
 refine GX.callp (r := .bool c10) rfl rfl rfl (f78_ok (IntKind.i64.wrap (a0.Age - b1.Age)) (-900) 900 _ hc10) rfl rfl ?_
 refine GX.done ?_
 rcases bool_two (c10) with hb1 | hb1
 ·rw [hb1]; try simp only [hb1, bb] at hR
  refine WK.condF rfl ?_
  refine WK.skip ?_
  refine WK.sr mixed ?_
  refine GX.q (.ptr 1 0) ?_
  refine GX.q (.int .i64 b1.Age) ?_
  refine GX.q (.ptr 0 0) ?_
  refine GX.q (.int .i64 a0.Age) ?_
  generalize hc15 : F59_cmp_Compare b1.Age a0.Age = c15 at hR
  try dsimp only at hR
  refine GX.callp (r := .int .i64 c15) rfl rfl rfl (f59_ok b1.Age a0.Age _ hc15) rfl rfl ?_
  refine GX.m rfl ?_
  refine GX.done ?_
  refine WK.ret ?_
  subst hR
  exact RetQ.fr [] (.inr rfl) rfl rfl rfl rfl
 ·rw [hb1]; try simp only [hb1, bb] at hR
  refine WK.condT rfl ?_
  refine WK.sr mixed ?_
  refine GX.m rfl ?_
  refine GX.done ?_
  refine WK.ret ?_
  subst hR
  exact RetQ.fr [] (.inr rfl) rfl rfl rfl rfl

theorem f41_ok (a0 : THeader) (b1 : THeader) (R : Int) (hR : F41_lsa_Compare a0 b1 = R) : FnOk Try.prog 41 [.agg (THeader.c a0), .agg (THeader.c b1)] [] 0 (.int .i64 R) [] 0 := by
 refine FnOk.wk i41 rfl rfl ?_
 unfold F41_lsa_Compare at hR
 change WK _ _ _ [ac41] _ ⟨[(0, .agg (THeader.c a0)), (1, .agg (THeader.c b1))], [], 0⟩
 unfold ac41
 refine WK.sr mixed ?_
 refine GX.step (v' := .ptr 0 0) (heap' := [(0, .box (THeader.c a0))]) (next' := 1) rfl rfl rfl rfl rfl rfl rfl ?_
 refine GX.step (v' := .ptr 1 0) (heap' := [(0, .box (THeader.c a0)), (1, .box (THeader.c b1))]) (next' := 2) rfl rfl rfl rfl rfl rfl rfl ?_
 refine GX.m rfl ?_
 refine GX.done ?_
 refine WK.seq ?_
 refine WK.drawn mixed ?_
 refine RD.q (.ptr 0 5) ?_
 refine RD.q (.int .u32 a0.Seq) ?_
 refine RD.q (.int .i32 (IntKind.i32.wrap a0.Seq)) ?_
 refine RD.q (.ptr 1 5) ?_
 refine RD.q (.int .u32 b1.Seq) ?_
 refine RD.q (.int .i32 (IntKind.i32.wrap b1.Seq)) ?_
 generalize hc11 : F58_cmp_Compare (IntKind.i32.wrap a0.Seq) (IntKind.i32.wrap b1.Seq) = c11 at hR
 try dsimp only at hR
 refine RD.callp (r := .int .i64 c11) rfl rfl rfl (f58_ok (IntKind.i32.wrap a0.Seq) (IntKind.i32.wrap b1.Seq) _ hc11) rfl rfl ?_
 refine RD.q (.ptr 0 6) ?_
 refine RD.q (.int .i64 a0.Sum) ?_
 refine RD.q (.ptr 1 6) ?_
 refine RD.q (.int .i64 b1.Sum) ?_
 generalize hc16 : F59_cmp_Compare a0.Sum b1.Sum = c16 at hR
 try dsimp only at hR
 refine RD.callp (r := .int .i64 c16) rfl rfl rfl (f59_ok a0.Sum b1.Sum _ hc16) rfl rfl ?_
 refine RD.q (.agg (THeader.c a0)) ?_
 generalize hc18 : F60_lsa_old a0 = c18 at hR
 try dsimp only at hR
 refine RD.callp (r := .int .i64 c18) rfl rfl rfl (f60_ok a0 _ hc18) rfl rfl ?_
 refine RD.q (.agg (THeader.c b1)) ?_
 generalize hc20 : F60_lsa_old b1 = c20 at hR
 try dsimp only at hR
 refine RD.callp (r := .int .i64 c20) rfl rfl rfl (f60_ok b1 _ hc20) rfl rfl ?_
 refine RD.q (.int .i64 (IntKind.i64.wrap (c18 - c20))) ?_
 refine RD.q (.agg (THeader.c a0)) ?_
 refine RD.q (.agg (THeader.c b1)) ?_
 generalize hc24 : F61_lsa_younger a0 b1 = c24 at hR
 try dsimp only at hR
 refine RD.callp (r := .int .i64 c24) rfl rfl rfl (f61_ok a0 b1 _ hc24) rfl rfl ?_
 refine RD.step (v' := .own 2 1 0 (([c11, c16, IntKind.i64.wrap (c18 - c20), c24] : List Int)).length) (heap' := [(0, .box (THeader.c a0)), (1, .box (THeader.c b1)), (2, .row 1 3 (([c11, c16, IntKind.i64.wrap (c18 - c20), c24] : List Int).map c_i64))]) (next' := 3) rfl rfl rfl rfl rfl rfl rfl ?_
 generalize hc26 : F57_lsa_first ([c11, c16, IntKind.i64.wrap (c18 - c20), c24] : List Int) = c26 at hR
 try dsimp only at hR
 refine RD.callbp (r := .int .i64 c26) [2] rfl rfl rfl (viewGo_cons (view_rowT rfl rfl) viewGo_nil) (f57_ok ([c11, c16, IntKind.i64.wrap (c18 - c20), c24] : List Int) _ hc26) rfl rfl ?_
 refine RD.m rfl ?_
 refine RD.done rfl ?_
 refine WK.ret ?_
 subst hR
 exact RetQ.fr [] (.inr rfl) rfl rfl rfl rfl

theorem f24_ok (st0 : TStore) (l1 : List THeader) (R : (List TKey)) (hR : F24_exch_Wants st0 l1 = some R) : FnOk Try.prog 24 [.agg (TStore.c st0), .ro 8 (l1.map THeader.c)] [] 0 (.ro 3 (R.map TKey.c)) [] 0 := by
 refine FnOk.wk i24 rfl rfl ?_
 unfold F24_exch_Wants at hR
 try dsimp only at hR
 change WK _ _ _ [ac24] _ ⟨[(0, .agg (TStore.c st0)), (1, .ro 8 (l1.map THeader.c))], [], 0⟩
 unfold ac24
 refine WK.sr mixed ?_
 refine GX.step (v' := .ptr 0 0) (heap' := [(0, .box (TStore.c st0))]) (next' := 1) rfl rfl rfl rfl rfl rfl rfl ?_
 refine GX.m rfl ?_
 refine GX.done ?_
 refine WK.sr mixed ?_
 refine GX.m rfl ?_
 refine GX.done ?_
 refine WK.seq ?_
 refine WK.sr mixed ?_
 refine GX.m rfl ?_
 refine GX.pure (v' := .int .i64 (l1.length : Int)) rfl rfl rfl rfl (len_map _ _) ?_
 refine GX.m rfl ?_
 refine GX.done ?_
 refine WK.adopt (t := 5) (sz := 3) (ty := 94) (heap' := [(0, .box (TStore.c st0)), (1, .row 3 94 (([] : List TKey).map TKey.c))]) rfl (by decide) (by simp) rfl ?_
 refine WK.len (t := 1) rfl (by simp) (fun hlen_9 => ?_)
 rw [List.length_map] at hlen_9
 generalize hZ_9 : F24_exch_Wants_l1 st0 ([] : List TKey) l1 = Z_9 at hR
 refine WK.forK (fun k s => ∃ (i12 : Nat) (out5 : List TKey), i12 ≤ l1.length ∧ k = l1.length - i12 ∧ F24_exch_Wants_l1 st0 out5 (l1.drop i12) = Z_9 ∧ s = ⟨[(2, .ptr 0 0), (5, .own 1 3 0 out5.length), (10, .ro 8 (l1.map THeader.c)), (11, .int .i64 (l1.length : Int)), (12, .int .i64 (i12 : Int))], [(0, .box (TStore.c st0)), (1, .row 3 94 (out5.map TKey.c))], 2⟩) l1.length ⟨⟨[(2, .ptr 0 0), (5, .own 1 3 0 ([] : List TKey).length), (10, .ro 8 (l1.map THeader.c)), (11, .int .i64 (l1.length : Int)), (12, .int .i64 (0 : Int))], [(0, .box (TStore.c st0)), (1, .row 3 94 (([] : List TKey).map TKey.c))], 2⟩, Conv.keep [0, 1] [] [2, 5, 10, 11, 12] rfl rfl (viewE_cons rfl rfl (viewE_cons rfl rfl (viewE_cons rfl rfl (viewE_cons rfl rfl (viewE_cons rfl rfl viewE_nil))))) rfl rfl, 0, ([] : List TKey), (by omega), rfl, hZ_9, rfl⟩ ?_
 rintro _ _ ⟨i12, out5, hi_9, rfl, hL_9, rfl⟩ again_9 out_9 Q_9 hagain_9 hout_9 hQ_9
 refine WK.sr mixed ?_
 refine GX.q (.bool (decide ((i12 : Int) < (l1.length : Int)))) ?_
 refine GX.done ?_
 refine WK.seq ?_
 rcases bool_two (decide ((i12 : Int) < (l1.length : Int))) with hb10 | hb10
 ·rw [hb10]
  rw [drop_end hb10, F24_exch_Wants_l1] at hL_9
  refine WK.condF rfl ?_
  refine WK.exit ?_
  refine QF.exit (hout_9 _ ?_)
  subst hL_9
  try dsimp only [cond_true, cond_false] at hR
  refine WK.sr mixed ?_
  iterate 2 refine GX.m rfl ?_
  refine GX.done ?_
  refine WK.ret ?_
  obtain rfl := Option.some.inj hR
  exact RetQ.fr [1] (.inr rfl) rfl rfl (viewGo_cons (view_rowT rfl rfl) viewGo_nil) rfl
 ·rw [hb10]
  obtain ⟨x12, hx9, hd9, hlt9⟩ := drop_more hb10
  rw [hd9, F24_exch_Wants_l1] at hL_9
  refine WK.condT rfl ?_
  refine WK.skip ?_
  refine WK.seq ?_
  refine WK.blockK (fun _ hK11 => ?_)
  refine WK.sr mixed ?_
  refine GX.idxT (c := THeader.c) (x := x12) rfl rfl rfl (Int.natCast_nonneg _) hx9 ?_
  refine GX.q (.agg (THeader.c x12)) ?_
  refine GX.step (v' := .ptr 2 0) (heap' := [(0, .box (TStore.c st0)), (1, .row 3 94 (out5.map TKey.c)), (2, .box [.int .i64 0, .int .i64 0, .int .i64 0, .int .u32 0, .int .u32 0, .int .u32 0, .int .i64 0, .int .i64 0])]) (next' := 3) rfl rfl rfl rfl rfl rfl rfl ?_
  refine GX.step0 (heap' := [(0, .box (TStore.c st0)), (1, .row 3 94 (out5.map TKey.c)), (2, .box (THeader.c x12))]) (next' := 3) rfl rfl rfl rfl rfl ?_
  refine GX.done ?_
  refine WK.seq ?_
  refine WK.drawn mixed ?_
  refine RD.q (.agg (TStore.c st0)) ?_
  refine RD.q (.agg (THeader.c x12)) ?_
  generalize hc19 : F40_lsa_Key x12 = c19 at hL_9
  try dsimp only at hL_9
  refine RD.callp (r := .agg [.int .i64 c19.Typef, .int .u32 c19.ID, .int .u32 c19.Adv]) rfl rfl rfl (f40_ok x12 _ hc19) rfl rfl ?_
  generalize hc20 : F39_store_Find st0 c19 = c20 at hL_9
  rcases c20 with _ | c20
  ·try dsimp only at hL_9
   subst hL_9
   try dsimp only at hR
   cases hR
  try dsimp only at hL_9
  obtain ⟨c20a, c20b⟩ := c20; try dsimp only at hL_9
  refine RD.callp (r := .tup [.agg [.int .i64 c20a.H.Age, .int .i64 c20a.H.Options, .int .i64 c20a.H.Typef, .int .u32 c20a.H.ID, .int .u32 c20a.H.Adv, .int .u32 c20a.H.Seq, .int .i64 c20a.H.Sum, .int .i64 c20a.H.Long, .ro 1 (c20a.B.map c_u8)], .bool c20b]) rfl rfl rfl (f39_ok st0 c19 _ hc20) rfl rfl ?_
  refine RD.m rfl ?_
  refine RD.q (.agg [.int .i64 c20a.H.Age, .int .i64 c20a.H.Options, .int .i64 c20a.H.Typef, .int .u32 c20a.H.ID, .int .u32 c20a.H.Adv, .int .u32 c20a.H.Seq, .int .i64 c20a.H.Sum, .int .i64 c20a.H.Long, .ro 1 (c20a.B.map c_u8)]) ?_
  refine RD.q (.bool c20b) ?_
  refine RD.step (v' := .ptr 3 0) (heap' := [(0, .box (TStore.c st0)), (1, .row 3 94 (out5.map TKey.c)), (2, .box (THeader.c x12)), (3, .box [.int .i64 0, .int .i64 0, .int .i64 0, .int .u32 0, .int .u32 0, .int .u32 0, .int .i64 0, .int .i64 0, .nils])]) (next' := 4) rfl rfl rfl rfl rfl rfl rfl ?_
  refine RD.step0 (heap' := [(0, .box (TStore.c st0)), (1, .row 3 94 (out5.map TKey.c)), (2, .box (THeader.c x12)), (3, .box (TAd.c c20a))]) (next' := 4) rfl rfl rfl rfl rfl ?_
  refine RD.m rfl ?_
  refine RD.done rfl ?_
  refine WK.sr mixed ?_
  refine GX.m rfl ?_
  refine GX.q (.bool (!c20b)) ?_
  refine GX.m rfl ?_
  rcases bool_two (c20b) with hb12 | hb12
  ·rw [hb12]; try simp only [hb12, bb] at hL_9
   iterate 5 refine GX.skip rfl rfl ?_
   refine GX.q (.bool true) ?_
   refine GX.done ?_
   refine WK.condT rfl ?_
   refine WK.regx mixed ?_
   refine GX.m rfl ?_
   refine GX.q (.agg (THeader.c x12)) ?_
   refine GX.callp (r := .agg [.int .i64 c19.Typef, .int .u32 c19.ID, .int .u32 c19.Adv]) rfl rfl rfl (f40_ok x12 _ hc19) rfl rfl ?_
   refine GX.step (v' := .own 4 3 0 (([c19] : List TKey)).length) (heap' := [(0, .box (TStore.c st0)), (1, .row 3 94 (out5.map TKey.c)), (2, .box (THeader.c x12)), (3, .box (TAd.c c20a)), (4, .row 3 94 (([c19] : List TKey).map TKey.c))]) (next' := 5) rfl rfl rfl rfl rfl rfl rfl ?_
   rcases bool_two (decide (out5.length < 1099511627776)) with hg13 | hg13
   ·simp only [hg13, bb] at hL_9
    try dsimp only at hL_9
    subst hL_9
    try dsimp only at hR
    cases hR
   simp only [hg13, bb] at hL_9
   have hg13_ := of_decide_eq_true hg13
   refine GX.appT (c := TKey.c) (L := out5) (X := ([c19] : List TKey)) (heap' := [(0, .box (TStore.c st0)), (2, .box (THeader.c x12)), (3, .box (TAd.c c20a)), (4, .row 3 94 (([c19] : List TKey).map TKey.c)), (5, .row 3 94 ((out5 ++ ([c19] : List TKey)).map TKey.c))]) (next' := 6) rfl rfl rfl rfl (elems_own rfl) (by ((try simp only [List.length_append, List.length_cons, List.length_nil, List.length_map, decide_eq_true_eq, decide_eq_false_iff_not] at *) <;> omega)) (by ((try simp only [List.length_append, List.length_cons, List.length_nil, List.length_map, decide_eq_true_eq, decide_eq_false_iff_not] at *) <;> omega)) rfl rfl rfl rfl ?_
   refine GX.m rfl ?_
   refine GX.done ?_
   refine WK.nil (QF.normal (hK11 _ ?_))
   refine WK.regx mixed ?_
   refine GX.pure (v' := .int .i64 ((i12 + 1 : Nat) : Int)) rfl rfl rfl rfl (congrArg (PVal.int .i64) (wrap_up hlt9 hlen_9)) ?_
   refine GX.m rfl ?_
   refine GX.done ?_
   refine WK.nil (QF.normal ?_)
   exact hagain_9 _ (l1.length - (i12 + 1)) ⟨[(2, .ptr 0 0), (5, .own 1 3 0 (out5 ++ ([c19] : List TKey)).length), (10, .ro 8 (l1.map THeader.c)), (11, .int .i64 (l1.length : Int)), (12, .int .i64 ((i12 + 1) : Int))], [(0, .box (TStore.c st0)), (1, .row 3 94 ((out5 ++ ([c19] : List TKey)).map TKey.c))], 2⟩ (by omega) (Conv.keep [0, 5] [] [2, 5, 10, 11, 12] rfl rfl (viewE_cons rfl rfl (viewE_cons rfl rfl (viewE_cons rfl rfl (viewE_cons rfl rfl (viewE_cons rfl rfl viewE_nil))))) rfl rfl) ⟨i12 + 1, (out5 ++ ([c19] : List TKey)), (by omega), rfl, hL_9, rfl⟩
  ·rw [hb12]; try simp only [hb12, bb] at hL_9
   refine GX.q (.agg (THeader.c x12)) ?_
   refine GX.q (.ptr 3 0) ?_
   refine GX.q (.agg [.int .i64 c20a.H.Age, .int .i64 c20a.H.Options, .int .i64 c20a.H.Typef, .int .u32 c20a.H.ID, .int .u32 c20a.H.Adv, .int .u32 c20a.H.Seq, .int .i64 c20a.H.Sum, .int .i64 c20a.H.Long]) ?_
   generalize hc29 : F41_lsa_Compare x12 c20a.H = c29 at hL_9
   try dsimp only at hL_9
   refine GX.callp (r := .int .i64 c29) rfl rfl rfl (f41_ok x12 c20a.H _ hc29) rfl rfl ?_
   iterate 2 refine GX.q (.bool (decide (0 < c29))) ?_
   refine GX.done ?_
   rcases bool_two (decide (0 < c29)) with hb14 | hb14
   ·rw [hb14]; try simp only [hb14, bb] at hL_9
    refine WK.condF rfl ?_
    refine WK.skip ?_
    refine WK.nil (QF.normal (hK11 _ ?_))
    refine WK.regx mixed ?_
    refine GX.pure (v' := .int .i64 ((i12 + 1 : Nat) : Int)) rfl rfl rfl rfl (congrArg (PVal.int .i64) (wrap_up hlt9 hlen_9)) ?_
    refine GX.m rfl ?_
    refine GX.done ?_
    refine WK.nil (QF.normal ?_)
    exact hagain_9 _ (l1.length - (i12 + 1)) ⟨[(2, .ptr 0 0), (5, .own 1 3 0 out5.length), (10, .ro 8 (l1.map THeader.c)), (11, .int .i64 (l1.length : Int)), (12, .int .i64 ((i12 + 1) : Int))], [(0, .box (TStore.c st0)), (1, .row 3 94 (out5.map TKey.c))], 2⟩ (by omega) (Conv.keep [0, 1] [] [2, 5, 10, 11, 12] rfl rfl (viewE_cons rfl rfl (viewE_cons rfl rfl (viewE_cons rfl rfl (viewE_cons rfl rfl (viewE_cons rfl rfl viewE_nil))))) rfl rfl) ⟨i12 + 1, out5, (by omega), rfl, hL_9, rfl⟩
   ·rw [hb14]; try simp only [hb14, bb] at hL_9
    refine WK.condT rfl ?_
    refine WK.regx mixed ?_
    refine GX.m rfl ?_
    refine GX.q (.agg (THeader.c x12)) ?_
    refine GX.callp (r := .agg [.int .i64 c19.Typef, .int .u32 c19.ID, .int .u32 c19.Adv]) rfl rfl rfl (f40_ok x12 _ hc19) rfl rfl ?_
    refine GX.step (v' := .own 4 3 0 (([c19] : List TKey)).length) (heap' := [(0, .box (TStore.c st0)), (1, .row 3 94 (out5.map TKey.c)), (2, .box (THeader.c x12)), (3, .box (TAd.c c20a)), (4, .row 3 94 (([c19] : List TKey).map TKey.c))]) (next' := 5) rfl rfl rfl rfl rfl rfl rfl ?_
    rcases bool_two (decide (out5.length < 1099511627776)) with hg15 | hg15
    ·simp only [hg15, bb] at hL_9
     try dsimp only at hL_9
     subst hL_9
     try dsimp only at hR
     cases hR
    simp only [hg15, bb] at hL_9
    have hg15_ := of_decide_eq_true hg15
    refine GX.appT (c := TKey.c) (L := out5) (X := ([c19] : List TKey)) (heap' := [(0, .box (TStore.c st0)), (2, .box (THeader.c x12)), (3, .box (TAd.c c20a)), (4, .row 3 94 (([c19] : List TKey).map TKey.c)), (5, .row 3 94 ((out5 ++ ([c19] : List TKey)).map TKey.c))]) (next' := 6) rfl rfl rfl rfl (elems_own rfl) (by ((try simp only [List.length_append, List.length_cons, List.length_nil, List.length_map, decide_eq_true_eq, decide_eq_false_iff_not] at *) <;> omega)) (by ((try simp only [List.length_append, List.length_cons, List.length_nil, List.length_map, decide_eq_true_eq, decide_eq_false_iff_not] at *) <;> omega)) rfl rfl rfl rfl ?_
    refine GX.m rfl ?_
    refine GX.done ?_
    refine WK.nil (QF.normal (hK11 _ ?_))
    refine WK.regx mixed ?_
    refine GX.pure (v' := .int .i64 ((i12 + 1 : Nat) : Int)) rfl rfl rfl rfl (congrArg (PVal.int .i64) (wrap_up hlt9 hlen_9)) ?_
    refine GX.m rfl ?_
    refine GX.done ?_
    refine WK.nil (QF.normal ?_)
    exact hagain_9 _ (l1.length - (i12 + 1)) ⟨[(2, .ptr 0 0), (5, .own 1 3 0 (out5 ++ ([c19] : List TKey)).length), (10, .ro 8 (l1.map THeader.c)), (11, .int .i64 (l1.length : Int)), (12, .int .i64 ((i12 + 1) : Int))], [(0, .box (TStore.c st0)), (1, .row 3 94 ((out5 ++ ([c19] : List TKey)).map TKey.c))], 2⟩ (by omega) (Conv.keep [0, 5] [] [2, 5, 10, 11, 12] rfl rfl (viewE_cons rfl rfl (viewE_cons rfl rfl (viewE_cons rfl rfl (viewE_cons rfl rfl (viewE_cons rfl rfl viewE_nil))))) rfl rfl) ⟨i12 + 1, (out5 ++ ([c19] : List TKey)), (by omega), rfl, hL_9, rfl⟩

theorem f42_ok (s0 : TStore) (k1 : TKey) (R : TAd × Bool) (hR : F42_crossroadsref14_Find s0 k1 = R) : FnOk Try.prog 42 [.agg (TStore.c s0), .agg (TKey.c k1)] [] 0 (.tup [.agg (TAd.c R.1), .bool R.2]) [] 0 := by
 refine FnOk.wk i42 rfl rfl ?_
 unfold F42_crossroadsref14_Find at hR
 change WK _ _ _ [ac42] _ ⟨[(0, .agg (TStore.c s0)), (1, .agg (TKey.c k1))], [], 0⟩
 unfold ac42
 refine WK.sr mixed ?_
 refine GX.step (v' := .ptr 0 0) (heap' := [(0, .box (TStore.c s0))]) (next' := 1) rfl rfl rfl rfl rfl rfl rfl ?_
 refine GX.step (v' := .ptr 1 0) (heap' := [(0, .box (TStore.c s0)), (1, .box (TKey.c k1))]) (next' := 2) rfl rfl rfl rfl rfl rfl rfl ?_
 refine GX.step (v' := .ptr 2 0) (heap' := [(0, .box (TStore.c s0)), (1, .box (TKey.c k1)), (2, .box [.int .i64 0, .int .i64 0, .int .i64 0, .int .u32 0, .int .u32 0, .int .u32 0, .int .i64 0, .int .i64 0, .nils])]) (next' := 3) rfl rfl rfl rfl rfl rfl rfl ?_
 refine GX.m rfl ?_
 refine GX.done ?_
 refine WK.seq ?_
 refine WK.sr mixed ?_
 refine GX.m rfl ?_
 refine GX.done ?_
 refine WK.lenb (id := 0) (j := 1) rfl rfl (by simp) (fun hlen_1 => ?_)
 rw [List.length_map] at hlen_1
 generalize hZ_1 : F42_crossroadsref14_Find_l1 k1 s0.L = Z_1 at hR
 refine WK.forK (fun k s => ∃ (i6 : Nat), i6 ≤ s0.L.length ∧ k = s0.L.length - i6 ∧ F42_crossroadsref14_Find_l1 k1 (s0.L.drop i6) = Z_1 ∧ s = ⟨[(2, .ptr 0 0), (3, .ptr 1 0), (4, .ptr 2 0), (6, .int .i64 (i6 : Int))], [(0, .box (TStore.c s0)), (1, .box (TKey.c k1)), (2, .box [.int .i64 0, .int .i64 0, .int .i64 0, .int .u32 0, .int .u32 0, .int .u32 0, .int .i64 0, .int .i64 0, .nils])], 3⟩) s0.L.length ⟨⟨[(2, .ptr 0 0), (3, .ptr 1 0), (4, .ptr 2 0), (6, .int .i64 (0 : Int))], [(0, .box (TStore.c s0)), (1, .box (TKey.c k1)), (2, .box [.int .i64 0, .int .i64 0, .int .i64 0, .int .u32 0, .int .u32 0, .int .u32 0, .int .i64 0, .int .i64 0, .nils])], 3⟩, Conv.keep [0, 1, 2] [] [2, 3, 4, 6] rfl rfl (viewE_cons rfl rfl (viewE_cons rfl rfl (viewE_cons rfl rfl (viewE_cons rfl rfl viewE_nil)))) rfl rfl, 0, (by omega), rfl, hZ_1, rfl⟩ ?_
 rintro _ _ ⟨i6, hi_1, rfl, hL_1, rfl⟩ again_1 out_1 Q_1 hagain_1 hout_1 hQ_1
 refine WK.seq ?_
 refine WK.sr mixed ?_
 refine GX.m rfl ?_
 refine GX.q (.ptr 0 1) ?_
 refine GX.q (.ro 9 (s0.L.map TAd.c)) ?_
 refine GX.pure (v' := .int .i64 (s0.L.length : Int)) rfl rfl rfl rfl (len_map _ _) ?_
 refine GX.q (.bool (decide ((i6 : Int) < (s0.L.length : Int)))) ?_
 refine GX.done ?_
 rcases bool_two (decide ((i6 : Int) < (s0.L.length : Int))) with hb2 | hb2
 ·rw [hb2]
  rw [drop_end hb2, F42_crossroadsref14_Find_l1] at hL_1
  refine WK.condF rfl ?_
  refine WK.exit ?_
  refine QF.exit (hout_1 _ ?_)
  subst hL_1
  try dsimp only [cond_true, cond_false] at hR
  refine WK.sr mixed ?_
  refine GX.q (.agg [.int .i64 0, .int .i64 0, .int .i64 0, .int .u32 0, .int .u32 0, .int .u32 0, .int .i64 0, .int .i64 0, .nils]) ?_
  refine GX.step0 (heap' := [(0, .box (TStore.c s0)), (1, .box (TKey.c k1)), (2, .box [.int .i64 0, .int .i64 0, .int .i64 0, .int .u32 0, .int .u32 0, .int .u32 0, .int .i64 0, .int .i64 0, .nils])]) (next' := 3) rfl rfl rfl rfl rfl ?_
  refine GX.m rfl ?_
  refine GX.done ?_
  refine WK.ret ?_
  subst hR
  exact RetQ.frw [] (.inr rfl) rfl rfl rfl (.tup (.cons (.agg (.cons .refl (.cons .refl (.cons .refl (.cons .refl (.cons .refl (.cons .refl (.cons .refl (.cons .refl (.cons .nil .refl)))))))))) .refl))
 ·rw [hb2]
  obtain ⟨x6, hx1, hd1, hlt1⟩ := drop_more hb2
  rw [hd1, F42_crossroadsref14_Find_l1] at hL_1
  refine WK.condT rfl ?_
  refine WK.skip ?_
  refine WK.seq ?_
  refine WK.blockK (fun _ hK3 => ?_)
  refine WK.seq ?_
  refine WK.drawn mixed ?_
  refine RD.q (.ptr 0 1) ?_
  refine RD.q (.ro 9 (s0.L.map TAd.c)) ?_
  refine RD.m rfl ?_
  refine RD.idxT (c := TAd.c) (x := x6) rfl rfl rfl (Int.natCast_nonneg _) hx1 ?_
  refine RD.q (.rptr (TAd.c x6)) ?_
  refine RD.q (.agg [.int .i64 x6.H.Age, .int .i64 x6.H.Options, .int .i64 x6.H.Typef, .int .u32 x6.H.ID, .int .u32 x6.H.Adv, .int .u32 x6.H.Seq, .int .i64 x6.H.Sum, .int .i64 x6.H.Long]) ?_
  generalize hc20 : F38_crossroadsref11_Key x6.H = c20 at hL_1
  try dsimp only at hL_1
  refine RD.callp (r := .agg [.int .i64 c20.Typef, .int .u32 c20.ID, .int .u32 c20.Adv]) rfl rfl rfl (f38_ok x6.H _ hc20) rfl rfl ?_
  refine RD.q (.agg (TKey.c k1)) ?_
  refine RD.q (.bool (decide (c20.Typef = k1.Typef) && (decide (c20.ID = k1.ID) && (decide (c20.Adv = k1.Adv) && true)))) ?_
  refine RD.done rfl ?_
  rcases bool_two ((decide (c20.Typef = k1.Typef) && (decide (c20.ID = k1.ID) && (decide (c20.Adv = k1.Adv) && true)))) with hb4 | hb4
  ·rw [hb4]; try simp only [hb4, bb] at hL_1
   refine WK.condF rfl ?_
   refine WK.skip ?_
   refine WK.nil (QF.normal (hK3 _ ?_))
   refine WK.regx mixed ?_
   refine GX.m rfl ?_
   refine GX.pure (v' := .int .i64 ((i6 + 1 : Nat) : Int)) rfl rfl rfl rfl (congrArg (PVal.int .i64) (wrap_up hlt1 hlen_1)) ?_
   refine GX.m rfl ?_
   refine GX.done ?_
   refine WK.nil (QF.normal ?_)
   exact hagain_1 _ (s0.L.length - (i6 + 1)) ⟨[(2, .ptr 0 0), (3, .ptr 1 0), (4, .ptr 2 0), (6, .int .i64 ((i6 + 1) : Int))], [(0, .box (TStore.c s0)), (1, .box (TKey.c k1)), (2, .box [.int .i64 0, .int .i64 0, .int .i64 0, .int .u32 0, .int .u32 0, .int .u32 0, .int .i64 0, .int .i64 0, .nils])], 3⟩ (by omega) (Conv.keep [0, 1, 2] [] [2, 3, 4, 6] rfl rfl (viewE_cons rfl rfl (viewE_cons rfl rfl (viewE_cons rfl rfl (viewE_cons rfl rfl viewE_nil)))) rfl rfl) ⟨i6 + 1, (by omega), rfl, hL_1, rfl⟩
  ·rw [hb4]; try simp only [hb4, bb] at hL_1
   refine WK.condT rfl ?_
   refine WK.sr mixed ?_
   refine GX.q (.ptr 0 1) ?_
   refine GX.q (.ro 9 (s0.L.map TAd.c)) ?_
   refine GX.m rfl ?_
   refine GX.idxT (c := TAd.c) (x := x6) rfl rfl rfl (Int.natCast_nonneg _) hx1 ?_
   refine GX.q (.agg (TAd.c x6)) ?_
   refine GX.step0 (heap' := [(0, .box (TStore.c s0)), (1, .box (TKey.c k1)), (2, .box (TAd.c x6))]) (next' := 3) rfl rfl rfl rfl rfl ?_
   refine GX.m rfl ?_
   refine GX.done ?_
   refine WK.ret ?_
   refine QF.ret ?_
   refine QF.ret (hQ_1 _ _ ?_)
   subst hL_1
   subst hR
   exact RetQ.fr [] (.inr rfl) rfl rfl rfl rfl

theorem f62_ok (is0 : Bool) (R : Int) (hR : F62_crossroadsref11_more is0 = R) : FnOk Try.prog 62 [.bool is0] [] 0 (.int .i64 R) [] 0 := by
 refine FnOk.wk i62 rfl rfl ?_
 unfold F62_crossroadsref11_more at hR
 change WK _ _ _ [ac62] _ ⟨[(0, .bool is0)], [], 0⟩
 unfold ac62
 refine WK.sr mixed ?_
 refine GX.m rfl ?_
 refine GX.done ?_
 refine WK.seq ?_
 refine WK.sr mixed ?_
 refine GX.m rfl ?_
 refine GX.done ?_
 rcases bool_two (is0) with hb1 | hb1
 ·rw [hb1]; try simp only [hb1, bb] at hR
  refine WK.condF rfl ?_
  refine WK.skip ?_
  refine WK.sr mixed ?_
  refine GX.m rfl ?_
  refine GX.done ?_
  refine WK.ret ?_
  subst hR
  exact RetQ.fr [] (.inr rfl) rfl rfl rfl rfl
 ·rw [hb1]; try simp only [hb1, bb] at hR
  refine WK.condT rfl ?_
  refine WK.sr mixed ?_
  refine GX.m rfl ?_
  refine GX.done ?_
  refine WK.ret ?_
  subst hR
  exact RetQ.fr [] (.inr rfl) rfl rfl rfl rfl

theorem f43_ok (a0 : THeader) (b1 : THeader) (R : Int) (hR : F43_crossroadsref11_Compare a0 b1 = R) : FnOk Try.prog 43 [.agg (THeader.c a0), .agg (THeader.c b1)] [] 0 (.int .i64 R) [] 0 := by
 refine FnOk.wk i43 rfl rfl ?_
 unfold F43_crossroadsref11_Compare at hR
 change WK _ _ _ [ac43] _ ⟨[(0, .agg (THeader.c a0)), (1, .agg (THeader.c b1))], [], 0⟩
 unfold ac43
 refine WK.sr mixed ?_
 refine GX.step (v' := .ptr 0 0) (heap' := [(0, .box (THeader.c a0))]) (next' := 1) rfl rfl rfl rfl rfl rfl rfl ?_
 refine GX.step (v' := .ptr 1 0) (heap' := [(0, .box (THeader.c a0)), (1, .box (THeader.c b1))]) (next' := 2) rfl rfl rfl rfl rfl rfl rfl ?_
 refine GX.m rfl ?_
 refine GX.done ?_
 refine WK.seq ?_
 refine WK.sr mixed ?_
 refine GX.q (.ptr 0 5) ?_
 refine GX.q (.int .u32 a0.Seq) ?_
 refine GX.q (.int .i32 (IntKind.i32.wrap a0.Seq)) ?_
 refine GX.q (.ptr 1 5) ?_
 refine GX.q (.int .u32 b1.Seq) ?_
 refine GX.q (.int .i32 (IntKind.i32.wrap b1.Seq)) ?_
 refine GX.q (.bool (!decide (IntKind.i32.wrap a0.Seq = IntKind.i32.wrap b1.Seq))) ?_
 refine GX.done ?_
 rcases bool_two (decide (IntKind.i32.wrap a0.Seq = IntKind.i32.wrap b1.Seq)) with hb1 | hb1
 ·rw [hb1]; try simp only [hb1, bb] at hR
  refine WK.condT rfl ?_
  refine WK.sr mixed ?_
  refine GX.q (.ptr 0 5) ?_
  refine GX.q (.int .u32 a0.Seq) ?_
  refine GX.q (.int .i32 (IntKind.i32.wrap a0.Seq)) ?_
  refine GX.q (.ptr 1 5) ?_
  refine GX.q (.int .u32 b1.Seq) ?_
  refine GX.q (.int .i32 (IntKind.i32.wrap b1.Seq)) ?_
  refine GX.q (.bool (decide (IntKind.i32.wrap b1.Seq < IntKind.i32.wrap a0.Seq))) ?_
  generalize hc19 : F62_crossroadsref11_more (decide (IntKind.i32.wrap b1.Seq < IntKind.i32.wrap a0.Seq)) = c19 at hR
  try dsimp only at hR
  refine GX.callp (r := .int .i64 c19) rfl rfl rfl (f62_ok (decide (IntKind.i32.wrap b1.Seq < IntKind.i32.wrap a0.Seq)) _ hc19) rfl rfl ?_
  refine GX.m rfl ?_
  refine GX.done ?_
  refine WK.ret ?_
  subst hR
  exact RetQ.fr [] (.inr rfl) rfl rfl rfl rfl
 ·rw [hb1]; try simp only [hb1, bb] at hR
  refine WK.condF rfl ?_
  refine WK.skip ?_
  refine WK.seq ?_
  refine WK.sr mixed ?_
  refine GX.q (.ptr 0 6) ?_
  refine GX.q (.int .i64 a0.Sum) ?_
  refine GX.q (.ptr 1 6) ?_
  refine GX.q (.int .i64 b1.Sum) ?_
  refine GX.q (.bool (!decide (a0.Sum = b1.Sum))) ?_
  refine GX.done ?_
  rcases bool_two (decide (a0.Sum = b1.Sum)) with hb2 | hb2
  ·rw [hb2]; try simp only [hb2, bb] at hR
   refine WK.condT rfl ?_
   refine WK.sr mixed ?_
   refine GX.q (.ptr 0 6) ?_
   refine GX.q (.int .i64 a0.Sum) ?_
   refine GX.q (.ptr 1 6) ?_
   refine GX.q (.int .i64 b1.Sum) ?_
   refine GX.q (.bool (decide (b1.Sum < a0.Sum))) ?_
   generalize hc30 : F62_crossroadsref11_more (decide (b1.Sum < a0.Sum)) = c30 at hR
   try dsimp only at hR
   refine GX.callp (r := .int .i64 c30) rfl rfl rfl (f62_ok (decide (b1.Sum < a0.Sum)) _ hc30) rfl rfl ?_
   refine GX.m rfl ?_
   refine GX.done ?_
   refine WK.ret ?_
   subst hR
   exact RetQ.fr [] (.inr rfl) rfl rfl rfl rfl
  ·rw [hb2]; try simp only [hb2, bb] at hR
   refine WK.condF rfl ?_
   refine WK.skip ?_
   refine WK.seq ?_
   refine WK.sr mixed ?_
   refine GX.q (.ptr 0 0) ?_
   refine GX.q (.int .i64 a0.Age) ?_
   refine GX.q (.bool (decide (a0.Age = 3600))) ?_
   refine GX.q (.ptr 1 0) ?_
   refine GX.q (.int .i64 b1.Age) ?_
   refine GX.q (.bool (decide (b1.Age = 3600))) ?_
   refine GX.q (.bool (!((decide (a0.Age = 3600)) == (decide (b1.Age = 3600))))) ?_
   refine GX.done ?_
   rcases bool_two ((decide (a0.Age = 3600)) == (decide (b1.Age = 3600))) with hb3 | hb3
   ·rw [hb3]; try simp only [hb3, bb] at hR
    refine WK.condT rfl ?_
    refine WK.sr mixed ?_
    refine GX.q (.ptr 0 0) ?_
    refine GX.q (.int .i64 a0.Age) ?_
    refine GX.q (.bool (decide (a0.Age = 3600))) ?_
    generalize hc41 : F62_crossroadsref11_more (decide (a0.Age = 3600)) = c41 at hR
    try dsimp only at hR
    refine GX.callp (r := .int .i64 c41) rfl rfl rfl (f62_ok (decide (a0.Age = 3600)) _ hc41) rfl rfl ?_
    refine GX.m rfl ?_
    refine GX.done ?_
    refine WK.ret ?_
    subst hR
    exact RetQ.fr [] (.inr rfl) rfl rfl rfl rfl
   ·rw [hb3]; try simp only [hb3, bb] at hR
    refine WK.condF rfl ?_
    refine WK.skip ?_
    refine WK.seq ?_
    refine WK.sr mixed ?_
    refine GX.q (.ptr 0 0) ?_
    refine GX.q (.int .i64 a0.Age) ?_
    refine GX.q (.ptr 1 0) ?_
    refine GX.q (.int .i64 b1.Age) ?_
    refine GX.q (.int .i64 (IntKind.i64.wrap (b1.Age + 900))) ?_
    refine GX.q (.bool (decide (IntKind.i64.wrap (b1.Age + 900) < a0.Age))) ?_
    refine GX.m rfl ?_
    rcases bool_two (decide (IntKind.i64.wrap (b1.Age + 900) < a0.Age)) with hb4 | hb4
    ·rw [hb4]; try simp only [hb4, bb] at hR
     refine GX.q (.ptr 1 0) ?_
     refine GX.q (.int .i64 b1.Age) ?_
     refine GX.q (.ptr 0 0) ?_
     refine GX.q (.int .i64 a0.Age) ?_
     refine GX.q (.int .i64 (IntKind.i64.wrap (a0.Age + 900))) ?_
     iterate 2 refine GX.q (.bool (decide (IntKind.i64.wrap (a0.Age + 900) < b1.Age))) ?_
     refine GX.done ?_
     rcases bool_two (decide (IntKind.i64.wrap (a0.Age + 900) < b1.Age)) with hb5 | hb5
     ·rw [hb5]; try simp only [hb5, bb] at hR
      refine WK.condF rfl ?_
      refine WK.skip ?_
      refine WK.sr mixed ?_
      refine GX.m rfl ?_
      refine GX.done ?_
      refine WK.ret ?_
      subst hR
      exact RetQ.fr [] (.inr rfl) rfl rfl rfl rfl
     ·rw [hb5]; try simp only [hb5, bb] at hR
      refine WK.condT rfl ?_
      refine WK.sr mixed ?_
      refine GX.q (.ptr 0 0) ?_
      refine GX.q (.int .i64 a0.Age) ?_
      refine GX.q (.ptr 1 0) ?_
      refine GX.q (.int .i64 b1.Age) ?_
      refine GX.q (.bool (decide (a0.Age < b1.Age))) ?_
      generalize hc61 : F62_crossroadsref11_more (decide (a0.Age < b1.Age)) = c61 at hR
      try dsimp only at hR
      refine GX.callp (r := .int .i64 c61) rfl rfl rfl (f62_ok (decide (a0.Age < b1.Age)) _ hc61) rfl rfl ?_
      refine GX.m rfl ?_
      refine GX.done ?_
      refine WK.ret ?_
      subst hR
      exact RetQ.fr [] (.inr rfl) rfl rfl rfl rfl
    ·rw [hb4]; try simp only [hb4, bb] at hR
     iterate 6 refine GX.skip rfl rfl ?_
     refine GX.q (.bool true) ?_
     refine GX.done ?_
     refine WK.condT rfl ?_
     refine WK.sr mixed ?_
     refine GX.q (.ptr 0 0) ?_
     refine GX.q (.int .i64 a0.Age) ?_
     refine GX.q (.ptr 1 0) ?_
     refine GX.q (.int .i64 b1.Age) ?_
     refine GX.q (.bool (decide (a0.Age < b1.Age))) ?_
     generalize hc61 : F62_crossroadsref11_more (decide (a0.Age < b1.Age)) = c61 at hR
     try dsimp only at hR
     refine GX.callp (r := .int .i64 c61) rfl rfl rfl (f62_ok (decide (a0.Age < b1.Age)) _ hc61) rfl rfl ?_
     refine GX.m rfl ?_
     refine GX.done ?_
     refine WK.ret ?_
     subst hR
     exact RetQ.fr [] (.inr rfl) rfl rfl rfl rfl

theorem f25_ok (st0 : TStore) (l1 : List THeader) (R : (List TKey)) (hR : F25_crossroadsref17_Wants st0 l1 = some R) : FnOk Try.prog 25 [.agg (TStore.c st0), .ro 8 (l1.map THeader.c)] [] 0 (.ro 3 (R.map TKey.c)) [] 0 := by
 refine FnOk.wk i25 rfl rfl ?_
 unfold F25_crossroadsref17_Wants at hR
 try dsimp only at hR
 change WK _ _ _ [ac25] _ ⟨[(0, .agg (TStore.c st0)), (1, .ro 8 (l1.map THeader.c))], [], 0⟩
 unfold ac25
 refine WK.sr mixed ?_
 refine GX.step (v' := .ptr 0 0) (heap' := [(0, .box (TStore.c st0))]) (next' := 1) rfl rfl rfl rfl rfl rfl rfl ?_
 refine GX.m rfl ?_
 refine GX.done ?_
 refine WK.sr mixed ?_
 refine GX.step (v' := .own 1 3 0 (([] : List TKey)).length) (heap' := [(0, .box (TStore.c st0)), (1, .row 3 94 (([] : List TKey).map TKey.c))]) (next' := 2) rfl rfl rfl rfl rfl rfl rfl ?_
 refine GX.m rfl ?_
 refine GX.done ?_
 refine WK.seq ?_
 refine WK.sr mixed ?_
 refine GX.m rfl ?_
 refine GX.done ?_
 refine WK.len (t := 1) rfl (by simp) (fun hlen_5 => ?_)
 rw [List.length_map] at hlen_5
 generalize hZ_5 : F25_crossroadsref17_Wants_l1 st0 ([] : List TKey) l1 = Z_5 at hR
 refine WK.forK (fun k s => ∃ (i6 : Nat) (out5 : List TKey), i6 ≤ l1.length ∧ k = l1.length - i6 ∧ F25_crossroadsref17_Wants_l1 st0 out5 (l1.drop i6) = Z_5 ∧ s = ⟨[(1, .ro 8 (l1.map THeader.c)), (2, .ptr 0 0), (5, .own 1 3 0 out5.length), (6, .int .i64 (i6 : Int))], [(0, .box (TStore.c st0)), (1, .row 3 94 (out5.map TKey.c))], 2⟩) l1.length ⟨⟨[(1, .ro 8 (l1.map THeader.c)), (2, .ptr 0 0), (5, .own 1 3 0 ([] : List TKey).length), (6, .int .i64 (0 : Int))], [(0, .box (TStore.c st0)), (1, .row 3 94 (([] : List TKey).map TKey.c))], 2⟩, Conv.keep [0, 1] [] [1, 2, 5, 6] rfl rfl (viewE_cons rfl rfl (viewE_cons rfl rfl (viewE_cons rfl rfl (viewE_cons rfl rfl viewE_nil)))) rfl rfl, 0, ([] : List TKey), (by omega), rfl, hZ_5, rfl⟩ ?_
 rintro _ _ ⟨i6, out5, hi_5, rfl, hL_5, rfl⟩ again_5 out_5 Q_5 hagain_5 hout_5 hQ_5
 refine WK.seq ?_
 refine WK.sr mixed ?_
 iterate 2 refine GX.m rfl ?_
 refine GX.pure (v' := .int .i64 (l1.length : Int)) rfl rfl rfl rfl (len_map _ _) ?_
 refine GX.q (.bool (decide ((i6 : Int) < (l1.length : Int)))) ?_
 refine GX.done ?_
 rcases bool_two (decide ((i6 : Int) < (l1.length : Int))) with hb6 | hb6
 ·rw [hb6]
  rw [drop_end hb6, F25_crossroadsref17_Wants_l1] at hL_5
  refine WK.condF rfl ?_
  refine WK.exit ?_
  refine QF.exit (hout_5 _ ?_)
  subst hL_5
  try dsimp only [cond_true, cond_false] at hR
  refine WK.sr mixed ?_
  iterate 2 refine GX.m rfl ?_
  refine GX.done ?_
  refine WK.ret ?_
  obtain rfl := Option.some.inj hR
  exact RetQ.fr [1] (.inr rfl) rfl rfl (viewGo_cons (view_rowT rfl rfl) viewGo_nil) rfl
 ·rw [hb6]
  obtain ⟨x6, hx5, hd5, hlt5⟩ := drop_more hb6
  rw [hd5, F25_crossroadsref17_Wants_l1] at hL_5
  refine WK.condT rfl ?_
  refine WK.skip ?_
  refine WK.seq ?_
  refine WK.blockK (fun _ hK7 => ?_)
  refine WK.seq ?_
  refine WK.drawn mixed ?_
  refine RD.q (.agg (TStore.c st0)) ?_
  iterate 2 refine RD.m rfl ?_
  refine RD.idxT (c := THeader.c) (x := x6) rfl rfl rfl (Int.natCast_nonneg _) hx5 ?_
  refine RD.q (.agg (THeader.c x6)) ?_
  generalize hc22 : F38_crossroadsref11_Key x6 = c22 at hL_5
  try dsimp only at hL_5
  refine RD.callp (r := .agg [.int .i64 c22.Typef, .int .u32 c22.ID, .int .u32 c22.Adv]) rfl rfl rfl (f38_ok x6 _ hc22) rfl rfl ?_
  generalize hc23 : F42_crossroadsref14_Find st0 c22 = c23 at hL_5
  obtain ⟨c23a, c23b⟩ := c23; try dsimp only at hL_5
  refine RD.callp (r := .tup [.agg [.int .i64 c23a.H.Age, .int .i64 c23a.H.Options, .int .i64 c23a.H.Typef, .int .u32 c23a.H.ID, .int .u32 c23a.H.Adv, .int .u32 c23a.H.Seq, .int .i64 c23a.H.Sum, .int .i64 c23a.H.Long, .ro 1 (c23a.B.map c_u8)], .bool c23b]) rfl rfl rfl (f42_ok st0 c22 _ hc23) rfl rfl ?_
  refine RD.m rfl ?_
  refine RD.q (.agg [.int .i64 c23a.H.Age, .int .i64 c23a.H.Options, .int .i64 c23a.H.Typef, .int .u32 c23a.H.ID, .int .u32 c23a.H.Adv, .int .u32 c23a.H.Seq, .int .i64 c23a.H.Sum, .int .i64 c23a.H.Long, .ro 1 (c23a.B.map c_u8)]) ?_
  refine RD.q (.bool c23b) ?_
  refine RD.step (v' := .ptr 2 0) (heap' := [(0, .box (TStore.c st0)), (1, .row 3 94 (out5.map TKey.c)), (2, .box [.int .i64 0, .int .i64 0, .int .i64 0, .int .u32 0, .int .u32 0, .int .u32 0, .int .i64 0, .int .i64 0, .nils])]) (next' := 3) rfl rfl rfl rfl rfl rfl rfl ?_
  refine RD.step0 (heap' := [(0, .box (TStore.c st0)), (1, .row 3 94 (out5.map TKey.c)), (2, .box (TAd.c c23a))]) (next' := 3) rfl rfl rfl rfl rfl ?_
  refine RD.m rfl ?_
  refine RD.done rfl ?_
  refine WK.seq ?_
  refine WK.drawn mixed ?_
  refine RD.m rfl ?_
  refine RD.q (.bool (!c23b)) ?_
  refine RD.m rfl ?_
  rcases bool_two (c23b) with hb8 | hb8
  ·rw [hb8]; try simp only [hb8, bb] at hL_5
   iterate 8 refine RD.skip rfl rfl ?_
   refine RD.q (.bool true) ?_
   refine RD.done rfl ?_
   refine WK.condT rfl ?_
   refine WK.regx mixed ?_
   iterate 3 refine GX.m rfl ?_
   refine GX.idxT (c := THeader.c) (x := x6) rfl rfl rfl (Int.natCast_nonneg _) hx5 ?_
   refine GX.q (.agg (THeader.c x6)) ?_
   refine GX.callp (r := .agg [.int .i64 c22.Typef, .int .u32 c22.ID, .int .u32 c22.Adv]) rfl rfl rfl (f38_ok x6 _ hc22) rfl rfl ?_
   refine GX.step (v' := .own 3 3 0 (([c22] : List TKey)).length) (heap' := [(0, .box (TStore.c st0)), (1, .row 3 94 (out5.map TKey.c)), (2, .box (TAd.c c23a)), (3, .row 3 94 (([c22] : List TKey).map TKey.c))]) (next' := 4) rfl rfl rfl rfl rfl rfl rfl ?_
   rcases bool_two (decide (out5.length < 1099511627776)) with hg9 | hg9
   ·simp only [hg9, bb] at hL_5
    try dsimp only at hL_5
    subst hL_5
    try dsimp only at hR
    cases hR
   simp only [hg9, bb] at hL_5
   have hg9_ := of_decide_eq_true hg9
   refine GX.appT (c := TKey.c) (L := out5) (X := ([c22] : List TKey)) (heap' := [(0, .box (TStore.c st0)), (2, .box (TAd.c c23a)), (3, .row 3 94 (([c22] : List TKey).map TKey.c)), (4, .row 3 94 ((out5 ++ ([c22] : List TKey)).map TKey.c))]) (next' := 5) rfl rfl rfl rfl (elems_own rfl) (by ((try simp only [List.length_append, List.length_cons, List.length_nil, List.length_map, decide_eq_true_eq, decide_eq_false_iff_not] at *) <;> omega)) (by ((try simp only [List.length_append, List.length_cons, List.length_nil, List.length_map, decide_eq_true_eq, decide_eq_false_iff_not] at *) <;> omega)) rfl rfl rfl rfl ?_
   refine GX.m rfl ?_
   refine GX.done ?_
   refine WK.nil (QF.normal (hK7 _ ?_))
   refine WK.regx mixed ?_
   refine GX.m rfl ?_
   refine GX.pure (v' := .int .i64 ((i6 + 1 : Nat) : Int)) rfl rfl rfl rfl (congrArg (PVal.int .i64) (wrap_up hlt5 hlen_5)) ?_
   refine GX.m rfl ?_
   refine GX.done ?_
   refine WK.nil (QF.normal ?_)
   exact hagain_5 _ (l1.length - (i6 + 1)) ⟨[(1, .ro 8 (l1.map THeader.c)), (2, .ptr 0 0), (5, .own 1 3 0 (out5 ++ ([c22] : List TKey)).length), (6, .int .i64 ((i6 + 1) : Int))], [(0, .box (TStore.c st0)), (1, .row 3 94 ((out5 ++ ([c22] : List TKey)).map TKey.c))], 2⟩ (by omega) (Conv.keep [0, 4] [] [1, 2, 5, 6] rfl rfl (viewE_cons rfl rfl (viewE_cons rfl rfl (viewE_cons rfl rfl (viewE_cons rfl rfl viewE_nil)))) rfl rfl) ⟨i6 + 1, (out5 ++ ([c22] : List TKey)), (by omega), rfl, hL_5, rfl⟩
  ·rw [hb8]; try simp only [hb8, bb] at hL_5
   iterate 2 refine RD.m rfl ?_
   refine RD.idxT (c := THeader.c) (x := x6) rfl rfl rfl (Int.natCast_nonneg _) hx5 ?_
   refine RD.q (.agg (THeader.c x6)) ?_
   refine RD.q (.ptr 2 0) ?_
   refine RD.q (.agg [.int .i64 c23a.H.Age, .int .i64 c23a.H.Options, .int .i64 c23a.H.Typef, .int .u32 c23a.H.ID, .int .u32 c23a.H.Adv, .int .u32 c23a.H.Seq, .int .i64 c23a.H.Sum, .int .i64 c23a.H.Long]) ?_
   generalize hc35 : F43_crossroadsref11_Compare x6 c23a.H = c35 at hL_5
   try dsimp only at hL_5
   refine RD.callp (r := .int .i64 c35) rfl rfl rfl (f43_ok x6 c23a.H _ hc35) rfl rfl ?_
   iterate 2 refine RD.q (.bool (decide (0 < c35))) ?_
   refine RD.done rfl ?_
   rcases bool_two (decide (0 < c35)) with hb10 | hb10
   ·rw [hb10]; try simp only [hb10, bb] at hL_5
    refine WK.condF rfl ?_
    refine WK.skip ?_
    refine WK.nil (QF.normal (hK7 _ ?_))
    refine WK.regx mixed ?_
    refine GX.m rfl ?_
    refine GX.pure (v' := .int .i64 ((i6 + 1 : Nat) : Int)) rfl rfl rfl rfl (congrArg (PVal.int .i64) (wrap_up hlt5 hlen_5)) ?_
    refine GX.m rfl ?_
    refine GX.done ?_
    refine WK.nil (QF.normal ?_)
    exact hagain_5 _ (l1.length - (i6 + 1)) ⟨[(1, .ro 8 (l1.map THeader.c)), (2, .ptr 0 0), (5, .own 1 3 0 out5.length), (6, .int .i64 ((i6 + 1) : Int))], [(0, .box (TStore.c st0)), (1, .row 3 94 (out5.map TKey.c))], 2⟩ (by omega) (Conv.keep [0, 1] [] [1, 2, 5, 6] rfl rfl (viewE_cons rfl rfl (viewE_cons rfl rfl (viewE_cons rfl rfl (viewE_cons rfl rfl viewE_nil)))) rfl rfl) ⟨i6 + 1, out5, (by omega), rfl, hL_5, rfl⟩
   ·rw [hb10]; try simp only [hb10, bb] at hL_5
    refine WK.condT rfl ?_
    refine WK.regx mixed ?_
    iterate 3 refine GX.m rfl ?_
    refine GX.idxT (c := THeader.c) (x := x6) rfl rfl rfl (Int.natCast_nonneg _) hx5 ?_
    refine GX.q (.agg (THeader.c x6)) ?_
    refine GX.callp (r := .agg [.int .i64 c22.Typef, .int .u32 c22.ID, .int .u32 c22.Adv]) rfl rfl rfl (f38_ok x6 _ hc22) rfl rfl ?_
    refine GX.step (v' := .own 3 3 0 (([c22] : List TKey)).length) (heap' := [(0, .box (TStore.c st0)), (1, .row 3 94 (out5.map TKey.c)), (2, .box (TAd.c c23a)), (3, .row 3 94 (([c22] : List TKey).map TKey.c))]) (next' := 4) rfl rfl rfl rfl rfl rfl rfl ?_
    rcases bool_two (decide (out5.length < 1099511627776)) with hg11 | hg11
    ·simp only [hg11, bb] at hL_5
     try dsimp only at hL_5
     subst hL_5
     try dsimp only at hR
     cases hR
    simp only [hg11, bb] at hL_5
    have hg11_ := of_decide_eq_true hg11
    refine GX.appT (c := TKey.c) (L := out5) (X := ([c22] : List TKey)) (heap' := [(0, .box (TStore.c st0)), (2, .box (TAd.c c23a)), (3, .row 3 94 (([c22] : List TKey).map TKey.c)), (4, .row 3 94 ((out5 ++ ([c22] : List TKey)).map TKey.c))]) (next' := 5) rfl rfl rfl rfl (elems_own rfl) (by ((try simp only [List.length_append, List.length_cons, List.length_nil, List.length_map, decide_eq_true_eq, decide_eq_false_iff_not] at *) <;> omega)) (by ((try simp only [List.length_append, List.length_cons, List.length_nil, List.length_map, decide_eq_true_eq, decide_eq_false_iff_not] at *) <;> omega)) rfl rfl rfl rfl ?_
    refine GX.m rfl ?_
    refine GX.done ?_
    refine WK.nil (QF.normal (hK7 _ ?_))
    refine WK.regx mixed ?_
    refine GX.m rfl ?_
    refine GX.pure (v' := .int .i64 ((i6 + 1 : Nat) : Int)) rfl rfl rfl rfl (congrArg (PVal.int .i64) (wrap_up hlt5 hlen_5)) ?_
    refine GX.m rfl ?_
    refine GX.done ?_
    refine WK.nil (QF.normal ?_)
    exact hagain_5 _ (l1.length - (i6 + 1)) ⟨[(1, .ro 8 (l1.map THeader.c)), (2, .ptr 0 0), (5, .own 1 3 0 (out5 ++ ([c22] : List TKey)).length), (6, .int .i64 ((i6 + 1) : Int))], [(0, .box (TStore.c st0)), (1, .row 3 94 ((out5 ++ ([c22] : List TKey)).map TKey.c))], 2⟩ (by omega) (Conv.keep [0, 4] [] [1, 2, 5, 6] rfl rfl (viewE_cons rfl rfl (viewE_cons rfl rfl (viewE_cons rfl rfl (viewE_cons rfl rfl viewE_nil)))) rfl rfl) ⟨i6 + 1, (out5 ++ ([c22] : List TKey)), (by omega), rfl, hL_5, rfl⟩

theorem f26_ok (s0 : TStore) (R : (List THeader)) (hR : F26_store_Heads s0 = some R) : FnOk Try.prog 26 [.agg (TStore.c s0)] [] 0 (.ro 8 (R.map THeader.c)) [] 0 := by
 refine FnOk.wk i26 rfl rfl ?_
 unfold F26_store_Heads at hR
 try dsimp only at hR
 change WK _ _ _ [ac26] _ ⟨[(0, .agg (TStore.c s0))], [], 0⟩
 unfold ac26
 refine WK.sr mixed ?_
 refine GX.step (v' := .ptr 0 0) (heap' := [(0, .box (TStore.c s0))]) (next' := 1) rfl rfl rfl rfl rfl rfl rfl ?_
 refine GX.m rfl ?_
 refine GX.done ?_
 refine WK.sr mixed ?_
 refine GX.m rfl ?_
 refine GX.done ?_
 refine WK.seq ?_
 refine WK.sr mixed ?_
 refine GX.q (.ptr 0 1) ?_
 refine GX.q (.ro 9 (s0.L.map TAd.c)) ?_
 refine GX.pure (v' := .int .i64 (s0.L.length : Int)) rfl rfl rfl rfl (len_map _ _) ?_
 refine GX.m rfl ?_
 refine GX.done ?_
 refine WK.adopt (t := 3) (sz := 8) (ty := 67) (heap' := [(0, .box (TStore.c s0)), (1, .row 8 67 (([] : List THeader).map THeader.c))]) rfl (by decide) (by simp) rfl ?_
 refine WK.len (t := 7) rfl (by simp) (fun hlen_7 => ?_)
 rw [List.length_map] at hlen_7
 generalize hZ_7 : F26_store_Heads_l1 ([] : List THeader) s0.L = Z_7 at hR
 refine WK.forK (fun k s => ∃ (i9 : Nat) (out3 : List THeader), i9 ≤ s0.L.length ∧ k = s0.L.length - i9 ∧ F26_store_Heads_l1 out3 (s0.L.drop i9) = Z_7 ∧ s = ⟨[(3, .own 0 8 0 out3.length), (7, .ro 9 (s0.L.map TAd.c)), (8, .int .i64 (s0.L.length : Int)), (9, .int .i64 (i9 : Int))], [(0, .row 8 67 (out3.map THeader.c))], 1⟩) s0.L.length ⟨⟨[(3, .own 0 8 0 ([] : List THeader).length), (7, .ro 9 (s0.L.map TAd.c)), (8, .int .i64 (s0.L.length : Int)), (9, .int .i64 (0 : Int))], [(0, .row 8 67 (([] : List THeader).map THeader.c))], 1⟩, Conv.keep [1] [] [3, 7, 8, 9] rfl rfl (viewE_cons rfl rfl (viewE_cons rfl rfl (viewE_cons rfl rfl (viewE_cons rfl rfl viewE_nil)))) rfl rfl, 0, ([] : List THeader), (by omega), rfl, hZ_7, rfl⟩ ?_
 rintro _ _ ⟨i9, out3, hi_7, rfl, hL_7, rfl⟩ again_7 out_7 Q_7 hagain_7 hout_7 hQ_7
 refine WK.sr mixed ?_
 refine GX.q (.bool (decide ((i9 : Int) < (s0.L.length : Int)))) ?_
 refine GX.done ?_
 refine WK.seq ?_
 rcases bool_two (decide ((i9 : Int) < (s0.L.length : Int))) with hb8 | hb8
 ·rw [hb8]
  rw [drop_end hb8, F26_store_Heads_l1] at hL_7
  refine WK.condF rfl ?_
  refine WK.exit ?_
  refine QF.exit (hout_7 _ ?_)
  subst hL_7
  try dsimp only [cond_true, cond_false] at hR
  refine WK.sr mixed ?_
  iterate 2 refine GX.m rfl ?_
  refine GX.done ?_
  refine WK.ret ?_
  obtain rfl := Option.some.inj hR
  exact RetQ.fr [0] (.inr rfl) rfl rfl (viewGo_cons (view_rowT rfl rfl) viewGo_nil) rfl
 ·rw [hb8]
  obtain ⟨x9, hx7, hd7, hlt7⟩ := drop_more hb8
  rw [hd7, F26_store_Heads_l1] at hL_7
  refine WK.condT rfl ?_
  refine WK.skip ?_
  refine WK.seq ?_
  refine WK.blockK (fun _ hK9 => ?_)
  refine WK.sr mixed ?_
  refine GX.idxT (c := TAd.c) (x := x9) rfl rfl rfl (Int.natCast_nonneg _) hx7 ?_
  refine GX.q (.agg (TAd.c x9)) ?_
  refine GX.step (v' := .ptr 1 0) (heap' := [(0, .row 8 67 (out3.map THeader.c)), (1, .box [.int .i64 0, .int .i64 0, .int .i64 0, .int .u32 0, .int .u32 0, .int .u32 0, .int .i64 0, .int .i64 0, .nils])]) (next' := 2) rfl rfl rfl rfl rfl rfl rfl ?_
  refine GX.step0 (heap' := [(0, .row 8 67 (out3.map THeader.c)), (1, .box (TAd.c x9))]) (next' := 2) rfl rfl rfl rfl rfl ?_
  refine GX.done ?_
  refine WK.regx mixed ?_
  refine GX.m rfl ?_
  refine GX.q (.ptr 1 0) ?_
  refine GX.q (.agg [.int .i64 x9.H.Age, .int .i64 x9.H.Options, .int .i64 x9.H.Typef, .int .u32 x9.H.ID, .int .u32 x9.H.Adv, .int .u32 x9.H.Seq, .int .i64 x9.H.Sum, .int .i64 x9.H.Long]) ?_
  refine GX.step (v' := .own 2 8 0 (([x9.H] : List THeader)).length) (heap' := [(0, .row 8 67 (out3.map THeader.c)), (1, .box (TAd.c x9)), (2, .row 8 67 (([x9.H] : List THeader).map THeader.c))]) (next' := 3) rfl rfl rfl rfl rfl rfl rfl ?_
  rcases bool_two (decide (out3.length < 1099511627776)) with hg10 | hg10
  ·simp only [hg10, bb] at hL_7
   try dsimp only at hL_7
   subst hL_7
   try dsimp only at hR
   cases hR
  simp only [hg10, bb] at hL_7
  have hg10_ := of_decide_eq_true hg10
  refine GX.appT (c := THeader.c) (L := out3) (X := ([x9.H] : List THeader)) (heap' := [(1, .box (TAd.c x9)), (2, .row 8 67 (([x9.H] : List THeader).map THeader.c)), (3, .row 8 67 ((out3 ++ ([x9.H] : List THeader)).map THeader.c))]) (next' := 4) rfl rfl rfl rfl (elems_own rfl) (by ((try simp only [List.length_append, List.length_cons, List.length_nil, List.length_map, decide_eq_true_eq, decide_eq_false_iff_not] at *) <;> omega)) (by ((try simp only [List.length_append, List.length_cons, List.length_nil, List.length_map, decide_eq_true_eq, decide_eq_false_iff_not] at *) <;> omega)) rfl rfl rfl rfl ?_
  refine GX.m rfl ?_
  refine GX.done ?_
  refine WK.nil (QF.normal (hK9 _ ?_))
  refine WK.regx mixed ?_
  refine GX.pure (v' := .int .i64 ((i9 + 1 : Nat) : Int)) rfl rfl rfl rfl (congrArg (PVal.int .i64) (wrap_up hlt7 hlen_7)) ?_
  refine GX.m rfl ?_
  refine GX.done ?_
  refine WK.nil (QF.normal ?_)
  exact hagain_7 _ (s0.L.length - (i9 + 1)) ⟨[(3, .own 0 8 0 (out3 ++ ([x9.H] : List THeader)).length), (7, .ro 9 (s0.L.map TAd.c)), (8, .int .i64 (s0.L.length : Int)), (9, .int .i64 ((i9 + 1) : Int))], [(0, .row 8 67 ((out3 ++ ([x9.H] : List THeader)).map THeader.c))], 1⟩ (by omega) (Conv.keep [3] [] [3, 7, 8, 9] rfl rfl (viewE_cons rfl rfl (viewE_cons rfl rfl (viewE_cons rfl rfl (viewE_cons rfl rfl viewE_nil)))) rfl rfl) ⟨i9 + 1, (out3 ++ ([x9.H] : List THeader)), (by omega), rfl, hL_7, rfl⟩

theorem f7_ok (s0 : TStore) (l1 : List THeader) (R : Bool) (hR : F7_crossroadslaw17_ExchWants s0 l1 = some R) : FnOk Try.prog 7 [.agg (TStore.c s0), .ro 8 (l1.map THeader.c)] [] 0 (.bool R) [] 0 := by
 refine FnOk.wk i7 rfl rfl ?_
 unfold F7_crossroadslaw17_ExchWants at hR
 try dsimp only at hR
 change WK _ _ _ [ac7] _ ⟨[(0, .agg (TStore.c s0)), (1, .ro 8 (l1.map THeader.c))], [], 0⟩
 unfold ac7
 refine WK.sr mixed ?_
 refine GX.step (v' := .ptr 0 0) (heap' := [(0, .box (TStore.c s0))]) (next' := 1) rfl rfl rfl rfl rfl rfl rfl ?_
 refine GX.m rfl ?_
 refine GX.done ?_
 refine WK.sr mixed ?_
 refine GX.q (.ptr 0 0) ?_
 refine GX.q (.int .i64 s0.Max) ?_
 refine GX.q (.ptr 0 1) ?_
 refine GX.q (.ro 9 (s0.L.map TAd.c)) ?_
 refine GX.q (.ptr 0 2) ?_
 refine GX.q (.bool s0.Over) ?_
 refine GX.q (.agg (TStore.c s0)) ?_
 refine GX.step (v' := .ptr 1 0) (heap' := [(0, .box (TStore.c s0)), (1, .box [.int .i64 0, .nils, .bool false])]) (next' := 2) rfl rfl rfl rfl rfl rfl rfl ?_
 refine GX.step0 (heap' := [(0, .box (TStore.c s0)), (1, .box (TStore.c s0))]) (next' := 2) rfl rfl rfl rfl rfl ?_
 refine GX.done ?_
 refine WK.seq ?_
 refine WK.sr mixed ?_
 refine GX.q (.ptr 0 1) ?_
 refine GX.q (.ro 9 (s0.L.map TAd.c)) ?_
 refine GX.pure (v' := .int .i64 (s0.L.length : Int)) rfl rfl rfl rfl (len_map _ _) ?_
 refine GX.q (.bool (decide (100 < (s0.L.length : Int)))) ?_
 refine GX.m rfl ?_
 rcases bool_two (decide (100 < (s0.L.length : Int))) with hb1 | hb1
 ·rw [hb1]; first | replace hR := cond_f hb1 hR | (try simp only [hb1, bb] at hR)
  refine GX.m rfl ?_
  refine GX.pure (v' := .int .i64 (l1.length : Int)) rfl rfl rfl rfl (len_map _ _) ?_
  iterate 2 refine GX.q (.bool (decide (120 < (l1.length : Int)))) ?_
  refine GX.m rfl ?_
  rcases bool_two (decide (120 < (l1.length : Int))) with hb2 | hb2
  ·rw [hb2]; first | replace hR := cond_f hb2 hR | (try simp only [hb2, bb] at hR)
   refine GX.q (.agg (TStore.c s0)) ?_
   generalize hc25 : F22_crossroadsref14_May s0 = c25 at hR
   rcases c25 with _ | c25
   ·try dsimp only at hR
    cases hR
   try dsimp only at hR
   try dsimp only at hR
   refine GX.callp (r := .bool c25) rfl rfl rfl (f22_ok s0 _ hc25) rfl rfl ?_
   iterate 2 refine GX.q (.bool (!c25)) ?_
   refine GX.done ?_
   rcases bool_two (c25) with hb3 | hb3
   ·rw [hb3]; first | replace hR := cond_f hb3 hR | (try simp only [hb3, bb] at hR)
    refine WK.condT rfl ?_
    refine WK.sr mixed ?_
    generalize hc28 : F8_crossroadslaw17_alive = c28 at hR
    rcases c28 with _ | c28
    ·try dsimp only at hR
     cases hR
    try dsimp only at hR
    try dsimp only at hR
    refine GX.callp (r := .bool c28) rfl rfl rfl (f8_ok  _ hc28) rfl rfl ?_
    refine GX.m rfl ?_
    refine GX.done ?_
    refine WK.ret ?_
    obtain rfl := Option.some.inj hR
    exact RetQ.fr [] (.inr rfl) rfl rfl rfl rfl
   ·rw [hb3]; first | replace hR := cond_t hb3 hR | (try simp only [hb3, bb] at hR)
    refine WK.condF rfl ?_
    refine WK.skip ?_
    refine WK.seq ?_
    refine WK.sr mixed ?_
    refine GX.m rfl ?_
    refine GX.done ?_
    refine WK.len (t := 1) rfl (by simp) (fun hlen_4 => ?_)
    rw [List.length_map] at hlen_4
    generalize hZ_4 : F7_crossroadslaw17_ExchWants_l1 l1 = Z_4 at hR
    refine WK.forK (fun k s => ∃ (i6 : Nat), i6 ≤ l1.length ∧ k = l1.length - i6 ∧ F7_crossroadslaw17_ExchWants_l1 (l1.drop i6) = Z_4 ∧ s = ⟨[(1, .ro 8 (l1.map THeader.c)), (2, .ptr 0 0), (5, .ptr 1 0), (6, .int .i64 (i6 : Int))], [(0, .box (TStore.c s0)), (1, .box (TStore.c s0))], 2⟩) l1.length ⟨⟨[(1, .ro 8 (l1.map THeader.c)), (2, .ptr 0 0), (5, .ptr 1 0), (6, .int .i64 (0 : Int))], [(0, .box (TStore.c s0)), (1, .box (TStore.c s0))], 2⟩, Conv.keep [0, 1] [] [1, 2, 5, 6] rfl rfl (viewE_cons rfl rfl (viewE_cons rfl rfl (viewE_cons rfl rfl (viewE_cons rfl rfl viewE_nil)))) rfl rfl, 0, (by omega), rfl, hZ_4, rfl⟩ ?_
    rintro _ _ ⟨i6, hi_4, rfl, hL_4, rfl⟩ again_4 out_4 Q_4 hagain_4 hout_4 hQ_4
    refine WK.seq ?_
    refine WK.sr mixed ?_
    iterate 2 refine GX.m rfl ?_
    refine GX.pure (v' := .int .i64 (l1.length : Int)) rfl rfl rfl rfl (len_map _ _) ?_
    refine GX.q (.bool (decide ((i6 : Int) < (l1.length : Int)))) ?_
    refine GX.done ?_
    rcases bool_two (decide ((i6 : Int) < (l1.length : Int))) with hb5 | hb5
    ·rw [hb5]
     rw [drop_end hb5, F7_crossroadslaw17_ExchWants_l1] at hL_4
     refine WK.condF rfl ?_
     refine WK.exit ?_
     refine QF.exit (hout_4 _ ?_)
     subst hL_4
     try dsimp only [cond_true, cond_false] at hR
     refine WK.seq ?_
     refine WK.drawn mixed ?_
     generalize hc50 : F8_crossroadslaw17_alive = c50 at hR
     rcases c50 with _ | c50
     ·try dsimp only at hR
      cases hR
     try dsimp only at hR
     try dsimp only at hR
     refine RD.callp (r := .bool c50) rfl rfl rfl (f8_ok  _ hc50) rfl rfl ?_
     refine RD.m rfl ?_
     rcases bool_two (c50) with hb6 | hb6
     ·rw [hb6]; first | replace hR := cond_f hb6 hR | (try simp only [hb6, bb] at hR)
      iterate 7 refine RD.skip rfl rfl ?_
      refine RD.q (.bool false) ?_
      refine RD.m rfl ?_
      iterate 6 refine RD.skip rfl rfl ?_
      refine RD.q (.bool false) ?_
      refine RD.m rfl ?_
      refine RD.done rfl ?_
      refine WK.ret ?_
      obtain rfl := Option.some.inj hR
      exact RetQ.fr [] (.inr rfl) rfl rfl rfl rfl
     ·rw [hb6]; first | replace hR := cond_t hb6 hR | (try simp only [hb6, bb] at hR)
      refine RD.q (.agg (TStore.c s0)) ?_
      refine RD.m rfl ?_
      generalize hc54 : F24_exch_Wants s0 l1 = c54 at hR
      rcases c54 with _ | c54
      ·try dsimp only at hR
       cases hR
      try dsimp only at hR
      try dsimp only at hR
      refine RD.callp (r := .ro 3 (c54.map TKey.c)) rfl rfl rfl (f24_ok s0 l1 _ hc54) rfl rfl ?_
      refine RD.q (.agg (TStore.c s0)) ?_
      refine RD.m rfl ?_
      generalize hc57 : F25_crossroadsref17_Wants s0 l1 = c57 at hR
      rcases c57 with _ | c57
      ·try dsimp only at hR
       cases hR
      try dsimp only at hR
      try dsimp only at hR
      refine RD.callp (r := .ro 3 (c57.map TKey.c)) rfl rfl rfl (f25_ok s0 l1 _ hc57) rfl rfl ?_
      generalize hc58 : F23_crossroadsref13_Keys c54 c57 = c58 at hR
      try dsimp only at hR
      refine RD.callp (r := .bool c58) rfl rfl rfl (f23_ok c54 c57 _ hc58) rfl rfl ?_
      refine RD.q (.bool c58) ?_
      refine RD.m rfl ?_
      rcases bool_two (c58) with hb7 | hb7
      ·rw [hb7]; first | replace hR := cond_f hb7 hR | (try simp only [hb7, bb] at hR)
       iterate 6 refine RD.skip rfl rfl ?_
       refine RD.q (.bool false) ?_
       refine RD.m rfl ?_
       refine RD.done rfl ?_
       refine WK.ret ?_
       obtain rfl := Option.some.inj hR
       exact RetQ.fr [] (.inr rfl) rfl rfl rfl rfl
      ·rw [hb7]; first | replace hR := cond_t hb7 hR | (try simp only [hb7, bb] at hR)
       iterate 2 refine RD.q (.agg (TStore.c s0)) ?_
       generalize hc63 : F26_store_Heads s0 = c63 at hR
       rcases c63 with _ | c63
       ·try dsimp only at hR
        cases hR
       try dsimp only at hR
       try dsimp only at hR
       refine RD.callp (r := .ro 8 (c63.map THeader.c)) rfl rfl rfl (f26_ok s0 _ hc63) rfl rfl ?_
       generalize hc64 : F24_exch_Wants s0 c63 = c64 at hR
       rcases c64 with _ | c64
       ·try dsimp only at hR
        cases hR
       try dsimp only at hR
       try dsimp only at hR
       refine RD.callp (r := .ro 3 (c64.map TKey.c)) rfl rfl rfl (f24_ok s0 c63 _ hc64) rfl rfl ?_
       refine RD.pure (v' := .int .i64 (c64.length : Int)) rfl rfl rfl rfl (len_map _ _) ?_
       iterate 2 refine RD.q (.bool (decide ((c64.length : Int) = 0))) ?_
       refine RD.m rfl ?_
       refine RD.done rfl ?_
       refine WK.ret ?_
       obtain rfl := Option.some.inj hR
       exact RetQ.fr [] (.inr rfl) rfl rfl rfl rfl
    ·rw [hb5]
     obtain ⟨x6, hx4, hd4, hlt4⟩ := drop_more hb5
     rw [hd4, F7_crossroadslaw17_ExchWants_l1] at hL_4
     refine WK.condT rfl ?_
     refine WK.skip ?_
     refine WK.seq ?_
     refine WK.blockK (fun _ hK8 => ?_)
     refine WK.sr mixed ?_
     iterate 2 refine GX.m rfl ?_
     refine GX.idxT (c := THeader.c) (x := x6) rfl rfl rfl (Int.natCast_nonneg _) hx4 ?_
     refine GX.q (.rptr (THeader.c x6)) ?_
     refine GX.q (.int .i64 x6.Age) ?_
     refine GX.q (.bool (decide (x6.Age < 0))) ?_
     refine GX.m rfl ?_
     rcases bool_two (decide (x6.Age < 0)) with hb9 | hb9
     ·rw [hb9]; try simp only [hb9, bb] at hL_4
      iterate 2 refine GX.m rfl ?_
      refine GX.idxT (c := THeader.c) (x := x6) rfl rfl rfl (Int.natCast_nonneg _) hx4 ?_
      refine GX.q (.rptr (THeader.c x6)) ?_
      refine GX.q (.int .i64 x6.Age) ?_
      iterate 2 refine GX.q (.bool (decide (3600 < x6.Age))) ?_
      refine GX.done ?_
      rcases bool_two (decide (3600 < x6.Age)) with hb10 | hb10
      ·rw [hb10]; try simp only [hb10, bb] at hL_4
       refine WK.condF rfl ?_
       refine WK.skip ?_
       refine WK.nil (QF.normal (hK8 _ ?_))
       refine WK.regx mixed ?_
       refine GX.m rfl ?_
       refine GX.pure (v' := .int .i64 ((i6 + 1 : Nat) : Int)) rfl rfl rfl rfl (congrArg (PVal.int .i64) (wrap_up hlt4 hlen_4)) ?_
       refine GX.m rfl ?_
       refine GX.done ?_
       refine WK.nil (QF.normal ?_)
       exact hagain_4 _ (l1.length - (i6 + 1)) ⟨[(1, .ro 8 (l1.map THeader.c)), (2, .ptr 0 0), (5, .ptr 1 0), (6, .int .i64 ((i6 + 1) : Int))], [(0, .box (TStore.c s0)), (1, .box (TStore.c s0))], 2⟩ (by omega) (Conv.keep [0, 1] [] [1, 2, 5, 6] rfl rfl (viewE_cons rfl rfl (viewE_cons rfl rfl (viewE_cons rfl rfl (viewE_cons rfl rfl viewE_nil)))) rfl rfl) ⟨i6 + 1, (by omega), rfl, hL_4, rfl⟩
      ·rw [hb10]; try simp only [hb10, bb] at hL_4
       refine WK.condT rfl ?_
       refine WK.sr mixed ?_
       generalize hc49 : F8_crossroadslaw17_alive = c49 at hL_4
       rcases c49 with _ | c49
       ·try dsimp only at hL_4
        subst hL_4
        try dsimp only at hR
        cases hR
       try dsimp only at hL_4
       try dsimp only at hL_4
       refine GX.callp (r := .bool c49) rfl rfl rfl (f8_ok  _ hc49) rfl rfl ?_
       refine GX.m rfl ?_
       refine GX.done ?_
       refine WK.ret ?_
       refine QF.ret ?_
       refine QF.ret (hQ_4 _ _ ?_)
       subst hL_4
       try dsimp only at hR
       obtain rfl := Option.some.inj hR
       exact RetQ.fr [] (.inr rfl) rfl rfl rfl rfl
     ·rw [hb9]; try simp only [hb9, bb] at hL_4
      iterate 6 refine GX.skip rfl rfl ?_
      refine GX.q (.bool true) ?_
      refine GX.done ?_
      refine WK.condT rfl ?_
      refine WK.sr mixed ?_
      generalize hc49 : F8_crossroadslaw17_alive = c49 at hL_4
      rcases c49 with _ | c49
      ·try dsimp only at hL_4
       subst hL_4
       try dsimp only at hR
       cases hR
      try dsimp only at hL_4
      try dsimp only at hL_4
      refine GX.callp (r := .bool c49) rfl rfl rfl (f8_ok  _ hc49) rfl rfl ?_
      refine GX.m rfl ?_
      refine GX.done ?_
      refine WK.ret ?_
      refine QF.ret ?_
      refine QF.ret (hQ_4 _ _ ?_)
      subst hL_4
      try dsimp only at hR
      obtain rfl := Option.some.inj hR
      exact RetQ.fr [] (.inr rfl) rfl rfl rfl rfl
  ·rw [hb2]; first | replace hR := cond_t hb2 hR | (try simp only [hb2, bb] at hR)
   iterate 3 refine GX.skip rfl rfl ?_
   refine GX.q (.bool true) ?_
   refine GX.done ?_
   refine WK.condT rfl ?_
   refine WK.sr mixed ?_
   generalize hc28 : F8_crossroadslaw17_alive = c28 at hR
   rcases c28 with _ | c28
   ·try dsimp only at hR
    cases hR
   try dsimp only at hR
   try dsimp only at hR
   refine GX.callp (r := .bool c28) rfl rfl rfl (f8_ok  _ hc28) rfl rfl ?_
   refine GX.m rfl ?_
   refine GX.done ?_
   refine WK.ret ?_
   obtain rfl := Option.some.inj hR
   exact RetQ.fr [] (.inr rfl) rfl rfl rfl rfl
 ·rw [hb1]; first | replace hR := cond_t hb1 hR | (try simp only [hb1, bb] at hR)
  iterate 3 refine GX.skip rfl rfl ?_
  refine GX.q (.bool true) ?_
  refine GX.m rfl ?_
  iterate 3 refine GX.skip rfl rfl ?_
  refine GX.q (.bool true) ?_
  refine GX.done ?_
  refine WK.condT rfl ?_
  refine WK.sr mixed ?_
  generalize hc28 : F8_crossroadslaw17_alive = c28 at hR
  rcases c28 with _ | c28
  ·try dsimp only at hR
   cases hR
  try dsimp only at hR
  try dsimp only at hR
  refine GX.callp (r := .bool c28) rfl rfl rfl (f8_ok  _ hc28) rfl rfl ?_
  refine GX.m rfl ?_
  refine GX.done ?_
  refine WK.ret ?_
  obtain rfl := Option.some.inj hR
  exact RetQ.fr [] (.inr rfl) rfl rfl rfl rfl

end Go.Proofs.Ytbmdpedhobkeeaa.Abs
