/- The functions walked: each computes its Lean function (printed by this work's own program gen.py). -/
import Derived.Test.YtakallenldpkiaaSz
import Derived.Test.YtakallenldpkiaaW1
set_option linter.unusedVariables false
set_option linter.unusedSimpArgs false
set_option maxRecDepth 10000
set_option maxHeartbeats 4000000
namespace Go.Proofs.Ytakallenldpkiaa.Abs
open Go

theorem f6_ok (script0 : List TAct) (a1 : Int) (R : Bool) (hR : F6_crossroadslaw06_TrieLongest script0 a1 = some R) : FnOk Try.prog 6 [.ro 5 (script0.map TAct.c), .int .u32 a1] [] 0 (.bool R) [] 0 := by
 refine FnOk.wk i6 rfl rfl ?_
 unfold F6_crossroadslaw06_TrieLongest at hR
 try dsimp only at hR
 change WK _ _ _ [ac6] _ ⟨[(0, .ro 5 (script0.map TAct.c)), (1, .int .u32 a1)], [], 0⟩
 unfold ac6
 refine WK.sr mixed ?_
 refine GX.m rfl ?_
 refine GX.done ?_
 refine WK.sr mixed ?_
 generalize hc13 : F9_trie_New = c13 at hR
 try dsimp only at hR
 refine GX.callx (r' := .ptr 0 0) (heap' := [(2, .row 1 3 (c13.free.map c_i64)), (1, .row 6 69 (c13.l.map TNode.c)), (0, .box [.own 1 6 0 c13.l.length, .own 2 1 0 c13.free.length, .int .i64 c13.root, .int .i64 c13.n])]) (next' := 3) [] [] rfl rfl rfl rfl rfl rfl (f9_ok  _ hc13) (.inl rfl) rfl rfl rfl ?_
 refine GX.m rfl ?_
 refine GX.done ?_
 refine WK.seq ?_
 refine WK.sr mixed ?_
 refine GX.m rfl ?_
 refine GX.q (.bool false) ?_
 refine GX.done ?_
 refine WK.condF rfl ?_
 refine WK.skip ?_
 refine WK.seq ?_
 refine WK.sr mixed ?_
 refine GX.m rfl ?_
 refine GX.done ?_
 refine WK.len (t := 0) rfl (by simp) (fun hlen_102 => ?_)
 rw [List.length_map] at hlen_102
 generalize hZ_102 : F6_crossroadslaw06_TrieLongest_l2 c13.root c13.n c13.l c13.free 0 script0 = Z_102 at hR
 refine WK.forK (fun k s => ∃ (i6 : Nat) (t_2_5 : Int) (t_3_5 : Int) (row1 : List TNode) (row2 : List Int), i6 ≤ script0.length ∧ k = script0.length - i6 ∧ F6_crossroadslaw06_TrieLongest_l2 t_2_5 t_3_5 row1 row2 i6 (script0.drop i6) = Z_102 ∧ s = ⟨[(0, .ro 5 (script0.map TAct.c)), (1, .int .u32 a1), (5, .ptr 0 0), (6, .int .i64 (i6 : Int))], [(0, .box [.own 1 6 0 row1.length, .own 2 1 0 row2.length, .int .i64 t_2_5, .int .i64 t_3_5]), (1, .row 6 69 (row1.map TNode.c)), (2, .row 1 3 (row2.map c_i64))], 3⟩) script0.length ⟨⟨[(0, .ro 5 (script0.map TAct.c)), (1, .int .u32 a1), (5, .ptr 0 0), (6, .int .i64 (0 : Int))], [(0, .box [.own 1 6 0 c13.l.length, .own 2 1 0 c13.free.length, .int .i64 c13.root, .int .i64 c13.n]), (1, .row 6 69 (c13.l.map TNode.c)), (2, .row 1 3 (c13.free.map c_i64))], 3⟩, Conv.keep [0, 1, 2] [] [0, 1, 5, 6] rfl rfl (viewE_cons rfl rfl (viewE_cons rfl rfl (viewE_cons rfl rfl (viewE_cons rfl rfl viewE_nil)))) rfl rfl, 0, c13.root, c13.n, c13.l, c13.free, (by omega), rfl, hZ_102, rfl⟩ ?_
 rintro _ _ ⟨i6, t_2_5, t_3_5, row1, row2, hi_102, rfl, hL_102, rfl⟩ again_102 out_102 Q_102 hagain_102 hout_102 hQ_102
 refine WK.seq ?_
 refine WK.sr mixed ?_
 iterate 2 refine GX.m rfl ?_
 refine GX.pure (v' := .int .i64 (script0.length : Int)) rfl rfl rfl rfl (len_map _ _) ?_
 refine GX.q (.bool (decide ((i6 : Int) < (script0.length : Int)))) ?_
 refine GX.m rfl ?_
 rcases bool_two (decide ((i6 : Int) < (script0.length : Int))) with hb103 | hb103
 ·rw [hb103]
  rw [drop_end hb103, F6_crossroadslaw06_TrieLongest_l2] at hL_102
  iterate 2 refine GX.skip rfl rfl ?_
  refine GX.q (.bool false) ?_
  refine GX.done ?_
  refine WK.condF rfl ?_
  refine WK.exit ?_
  refine QF.exit (hout_102 _ ?_)
  subst hL_102
  try dsimp only [cond_true, cond_false] at hR
  refine WK.sr mixed ?_
  iterate 2 refine GX.m rfl ?_
  generalize hc53 : F11_trie_Trie_Find (⟨row1, row2, t_2_5, t_3_5⟩ : TTrie) a1 = c53 at hR
  rcases c53 with _ | c53
  ·try dsimp only at hR
   cases hR
  try dsimp only at hR
  obtain ⟨c53a, c53b⟩ := c53; try dsimp only at hR
  refine GX.callx (r' := .tup [.agg (TEntry.c c53a), .bool c53b]) (heap' := [(0, .box [.own 1 6 0 row1.length, .own 2 1 0 row2.length, .int .i64 t_2_5, .int .i64 t_3_5]), (1, .row 6 69 (row1.map TNode.c)), (2, .row 1 3 (row2.map c_i64))]) (next' := 3) [0, 1, 2] [] rfl rfl rfl rfl rfl rfl (f11_ok (⟨row1, row2, t_2_5, t_3_5⟩ : TTrie) a1 _ hc53) (.inl rfl) rfl rfl rfl ?_
  refine GX.m rfl ?_
  refine GX.q (.agg (TEntry.c c53a)) ?_
  refine GX.q (.bool c53b) ?_
  refine GX.step (v' := .ptr 3 0) (heap' := [(0, .box [.own 1 6 0 row1.length, .own 2 1 0 row2.length, .int .i64 t_2_5, .int .i64 t_3_5]), (1, .row 6 69 (row1.map TNode.c)), (2, .row 1 3 (row2.map c_i64)), (3, .box [.int .u32 0, .int .i64 0, .int .i64 0])]) (next' := 4) rfl rfl rfl rfl rfl rfl rfl ?_
  refine GX.step0 (heap' := [(0, .box [.own 1 6 0 row1.length, .own 2 1 0 row2.length, .int .i64 t_2_5, .int .i64 t_3_5]), (1, .row 6 69 (row1.map TNode.c)), (2, .row 1 3 (row2.map c_i64)), (3, .box (TEntry.c c53a))]) (next' := 4) rfl rfl rfl rfl rfl ?_
  refine GX.m rfl ?_
  refine GX.done ?_
  refine WK.sr mixed ?_
  refine GX.m rfl ?_
  generalize hc57 : F14_trie_Trie_Walk (⟨row1, row2, t_2_5, t_3_5⟩ : TTrie) = c57 at hR
  rcases c57 with _ | c57
  ·try dsimp only at hR
   cases hR
  try dsimp only at hR
  try dsimp only at hR
  refine GX.callx (r' := .ro 3 (c57.map TEntry.c)) (heap' := [(0, .box [.own 1 6 0 row1.length, .own 2 1 0 row2.length, .int .i64 t_2_5, .int .i64 t_3_5]), (1, .row 6 69 (row1.map TNode.c)), (2, .row 1 3 (row2.map c_i64)), (3, .box (TEntry.c c53a))]) (next' := 4) [0, 1, 2] [] rfl rfl rfl rfl rfl rfl (f14_ok (⟨row1, row2, t_2_5, t_3_5⟩ : TTrie) _ hc57) (.inl rfl) rfl rfl rfl ?_
  refine GX.m rfl ?_
  refine GX.done ?_
  refine WK.sr mixed ?_
  refine GX.m rfl ?_
  refine GX.done ?_
  refine WK.seq ?_
  refine WK.sr mixed ?_
  refine GX.m rfl ?_
  refine GX.done ?_
  refine WK.len (t := 57) rfl (by simp) (fun hlen_132 => ?_)
  rw [List.length_map] at hlen_132
  generalize hZ_132 : F6_crossroadslaw06_TrieLongest_l1 a1 c53a c53b false c57 = Z_132 at hR
  refine WK.forK (fun k s => ∃ (i11 : Nat) (ok8 : Bool) (there10 : Bool), i11 ≤ c57.length ∧ k = c57.length - i11 ∧ F6_crossroadslaw06_TrieLongest_l1 a1 c53a ok8 there10 (c57.drop i11) = Z_132 ∧ s = ⟨[(1, .int .u32 a1), (5, .ptr 0 0), (7, .ptr 3 0), (8, .bool ok8), (9, .ro 3 (c57.map TEntry.c)), (10, .bool there10), (11, .int .i64 (i11 : Int))], [(0, .box [.own 1 6 0 row1.length, .own 2 1 0 row2.length, .int .i64 t_2_5, .int .i64 t_3_5]), (1, .row 6 69 (row1.map TNode.c)), (2, .row 1 3 (row2.map c_i64)), (3, .box (TEntry.c c53a))], 4⟩) c57.length ⟨⟨[(1, .int .u32 a1), (5, .ptr 0 0), (7, .ptr 3 0), (8, .bool c53b), (9, .ro 3 (c57.map TEntry.c)), (10, .bool false), (11, .int .i64 (0 : Int))], [(0, .box [.own 1 6 0 row1.length, .own 2 1 0 row2.length, .int .i64 t_2_5, .int .i64 t_3_5]), (1, .row 6 69 (row1.map TNode.c)), (2, .row 1 3 (row2.map c_i64)), (3, .box (TEntry.c c53a))], 4⟩, Conv.keep [0, 1, 2, 3] [] [1, 5, 7, 8, 9, 10, 11] rfl rfl (viewE_cons rfl rfl (viewE_cons rfl rfl (viewE_cons rfl rfl (viewE_cons rfl rfl (viewE_cons rfl rfl (viewE_cons rfl rfl (viewE_cons rfl rfl viewE_nil))))))) rfl rfl, 0, c53b, false, (by omega), rfl, hZ_132, rfl⟩ ?_
  rintro _ _ ⟨i11, ok8, there10, hi_132, rfl, hL_132, rfl⟩ again_132 out_132 Q_132 hagain_132 hout_132 hQ_132
  refine WK.seq ?_
  refine WK.sr mixed ?_
  iterate 2 refine GX.m rfl ?_
  refine GX.pure (v' := .int .i64 (c57.length : Int)) rfl rfl rfl rfl (len_map _ _) ?_
  refine GX.q (.bool (decide ((i11 : Int) < (c57.length : Int)))) ?_
  refine GX.done ?_
  rcases bool_two (decide ((i11 : Int) < (c57.length : Int))) with hb133 | hb133
  ·rw [hb133]
   rw [drop_end hb133, F6_crossroadslaw06_TrieLongest_l1] at hL_132
   refine WK.condF rfl ?_
   refine WK.exit ?_
   refine QF.exit (hout_132 _ ?_)
   subst hL_132
   try dsimp only [cond_true, cond_false] at hR
   refine WK.sr mixed ?_
   iterate 2 refine GX.m rfl ?_
   refine GX.q (.agg [.int .u32 a1, .int .i64 32]) ?_
   generalize hc99 : F22_trie_Trie_Above (⟨row1, row2, t_2_5, t_3_5⟩ : TTrie) (⟨a1, 32⟩ : TPrefix) = c99 at hR
   rcases c99 with _ | c99
   ·try dsimp only at hR
    cases hR
   try dsimp only at hR
   try dsimp only at hR
   refine GX.callx (r' := .ro 3 (c99.map TEntry.c)) (heap' := [(0, .box [.own 1 6 0 row1.length, .own 2 1 0 row2.length, .int .i64 t_2_5, .int .i64 t_3_5]), (1, .row 6 69 (row1.map TNode.c)), (2, .row 1 3 (row2.map c_i64)), (3, .box (TEntry.c c53a))]) (next' := 4) [0, 1, 2] [] rfl rfl rfl rfl rfl rfl (f22_ok (⟨row1, row2, t_2_5, t_3_5⟩ : TTrie) (⟨a1, 32⟩ : TPrefix) _ hc99) (.inl rfl) rfl rfl rfl ?_
   refine GX.m rfl ?_
   refine GX.done ?_
   iterate 2 refine WK.seq ?_
   refine WK.drawn mixed ?_
   iterate 2 refine RD.m rfl ?_
   refine RD.pure (v' := .int .i64 (c99.length : Int)) rfl rfl rfl rfl (len_map _ _) ?_
   refine RD.q (.bool (decide (0 < (c99.length : Int)))) ?_
   refine RD.q (.bool (!(ok8 == (decide (0 < (c99.length : Int)))))) ?_
   refine RD.m rfl ?_
   rcases bool_two (ok8 == (decide (0 < (c99.length : Int)))) with hb135 | hb135
   ·rw [hb135]; first | replace hR := cond_f hb135 hR | (try simp only [hb135, bb] at hR)
    iterate 22 refine RD.skip rfl rfl ?_
    refine RD.q (.bool true) ?_
    refine RD.doneB [0, 0, 2, 6, 15, 31, 63, 127, 255, 255, 767, 1791, 4095, 8191, 255, 32767, 65535, 131071, 262143, 524287, 1048575, 2097151, 4194303, 2097151, 16777215, 33554431, 67108863, 134217727, 268435455] (by kernel_rfl) (by kernel_rfl) (by kernel_rfl) ?_
    refine WK.condT rfl ?_
    refine WK.sr mixed ?_
    refine GX.m rfl ?_
    refine GX.done ?_
    refine WK.ret ?_
    obtain rfl := Option.some.inj hR
    exact RetQ.fr [] (.inr rfl) rfl rfl rfl rfl
   ·rw [hb135]; first | replace hR := cond_t hb135 hR | (try simp only [hb135, bb] at hR)
    iterate 2 refine RD.m rfl ?_
    rcases bool_two (ok8) with hb136 | hb136
    ·rw [hb136]; first | replace hR := cond_f hb136 hR | (try simp only [hb136, bb] at hR)
     iterate 19 refine RD.skip rfl rfl ?_
     iterate 2 refine RD.q (.bool false) ?_
     refine RD.doneB [0, 0, 2, 6, 15, 31, 63, 127, 255, 255, 767, 1791, 4095, 8191, 255, 32767, 65535, 131071, 262143, 524287, 1048575, 2097151, 4194303, 2097151, 16777215, 33554431, 67108863, 134217727, 268435455] (by kernel_rfl) (by kernel_rfl) (by kernel_rfl) ?_
     refine WK.condF rfl ?_
     refine WK.skip ?_
     refine WK.sr mixed ?_
     generalize hc129 : F12_crossroadslaw06_alive = c129 at hR
     try dsimp only at hR
     refine GX.callp (r := .bool c129) rfl rfl rfl (f12_ok  _ hc129) rfl rfl ?_
     refine GX.m rfl ?_
     rcases bool_two (c129) with hb137 | hb137
     ·rw [hb137]; first | replace hR := cond_f hb137 hR | (try simp only [hb137, bb] at hR)
      iterate 6 refine GX.skip rfl rfl ?_
      refine GX.q (.bool false) ?_
      refine GX.m rfl ?_
      refine GX.done ?_
      refine WK.ret ?_
      obtain rfl := Option.some.inj hR
      exact RetQ.fr [] (.inr rfl) rfl rfl rfl rfl
     ·rw [hb137]; first | replace hR := cond_t hb137 hR | (try simp only [hb137, bb] at hR)
      iterate 2 refine GX.m rfl ?_
      refine GX.q (.agg (TEntry.c c53a)) ?_
      refine GX.q (.agg [.int .u32 0, .int .i64 0, .int .i64 0]) ?_
      iterate 3 refine GX.q (.bool (decide (c53a.P.A = 0) && (decide (c53a.P.N = 0) && (decide (c53a.V = 0) && true)))) ?_
      refine GX.m rfl ?_
      refine GX.done ?_
      refine WK.ret ?_
      obtain rfl := Option.some.inj hR
      exact RetQ.fr [] (.inr rfl) rfl rfl rfl rfl
    ·rw [hb136]; first | replace hR := cond_t hb136 hR | (try simp only [hb136, bb] at hR)
     iterate 2 refine RD.m rfl ?_
     refine RD.pure (v' := .int .i64 (c99.length : Int)) rfl rfl rfl rfl (len_map _ _) ?_
     refine RD.q (.int .i64 (IntKind.i64.wrap ((c99.length : Int) - 1))) ?_
     generalize hx1037 : getI c99 (IntKind.i64.wrap ((c99.length : Int) - 1)) = x1037 at hR
     rcases x1037 with _ | x1037
     ·try dsimp only at hR
      cases hR
     try dsimp only at hR
     obtain ⟨hx10370, hx1037j, hx1037l, hx1037⟩ := getI_some hx1037
     refine RD.idxT (c := TEntry.c) (x := x1037) rfl rfl rfl hx10370 hx1037 ?_
     refine RD.q (.agg (TEntry.c x1037)) ?_
     refine RD.q (.agg (TEntry.c c53a)) ?_
     refine RD.q (.bool (!(decide (x1037.P.A = c53a.P.A) && (decide (x1037.P.N = c53a.P.N) && (decide (x1037.V = c53a.V) && true))))) ?_
     refine RD.m rfl ?_
     rcases bool_two (decide (x1037.P.A = c53a.P.A) && (decide (x1037.P.N = c53a.P.N) && (decide (x1037.V = c53a.V) && true))) with hb139 | hb139
     ·rw [hb139]; try simp only [hb139, bb] at hR
      iterate 2 refine RD.skip rfl rfl ?_
      refine RD.q (.bool true) ?_
      refine RD.m rfl ?_
      iterate 5 refine RD.skip rfl rfl ?_
      iterate 3 refine RD.q (.bool true) ?_
      refine RD.doneB [0, 0, 2, 6, 15, 31, 63, 127, 255, 255, 767, 1791, 4095, 8191, 255, 32767, 65535, 131071, 262143, 524287, 1048575, 2097151, 4194303, 2097151, 16777215, 33554431, 67108863, 134217727, 268435455] (by kernel_rfl) (by kernel_rfl) (by kernel_rfl) ?_
      refine WK.condT rfl ?_
      refine WK.sr mixed ?_
      refine GX.m rfl ?_
      refine GX.done ?_
      refine WK.ret ?_
      obtain rfl := Option.some.inj hR
      exact RetQ.fr [] (.inr rfl) rfl rfl rfl rfl
     ·rw [hb139]; try simp only [hb139, bb] at hR
      refine RD.m rfl ?_
      iterate 2 refine RD.q (.bool (!there10)) ?_
      refine RD.m rfl ?_
      rcases bool_two (there10) with hb140 | hb140
      ·rw [hb140]; first | replace hR := cond_f hb140 hR | (try simp only [hb140, bb] at hR)
       iterate 5 refine RD.skip rfl rfl ?_
       iterate 3 refine RD.q (.bool true) ?_
       refine RD.doneB [0, 0, 2, 6, 15, 31, 63, 127, 255, 255, 767, 1791, 4095, 8191, 255, 32767, 65535, 131071, 262143, 524287, 1048575, 2097151, 4194303, 2097151, 16777215, 33554431, 67108863, 134217727, 268435455] (by kernel_rfl) (by kernel_rfl) (by kernel_rfl) ?_
       refine WK.condT rfl ?_
       refine WK.sr mixed ?_
       refine GX.m rfl ?_
       refine GX.done ?_
       refine WK.ret ?_
       obtain rfl := Option.some.inj hR
       exact RetQ.fr [] (.inr rfl) rfl rfl rfl rfl
      ·rw [hb140]; first | replace hR := cond_t hb140 hR | (try simp only [hb140, bb] at hR)
       refine RD.q (.ptr 3 0) ?_
       refine RD.q (.agg [.int .u32 c53a.P.A, .int .i64 c53a.P.N]) ?_
       refine RD.m rfl ?_
       generalize hc124 : F27_crossroadsref03_Has c53a.P a1 = c124 at hR
       try dsimp only at hR
       refine RD.callp (r := .bool c124) rfl rfl rfl (f27_ok c53a.P a1 _ hc124) rfl rfl ?_
       iterate 4 refine RD.q (.bool (!c124)) ?_
       refine RD.doneB [0, 0, 2, 6, 15, 31, 63, 127, 255, 255, 767, 1791, 4095, 8191, 255, 32767, 65535, 131071, 262143, 524287, 1048575, 2097151, 4194303, 2097151, 16777215, 33554431, 67108863, 134217727, 268435455] (by kernel_rfl) (by kernel_rfl) (by kernel_rfl) ?_
       rcases bool_two (c124) with hb141 | hb141
       ·rw [hb141]; first | replace hR := cond_f hb141 hR | (try simp only [hb141, bb] at hR)
        refine WK.condT rfl ?_
        refine WK.sr mixed ?_
        refine GX.m rfl ?_
        refine GX.done ?_
        refine WK.ret ?_
        obtain rfl := Option.some.inj hR
        exact RetQ.fr [] (.inr rfl) rfl rfl rfl rfl
       ·rw [hb141]; first | replace hR := cond_t hb141 hR | (try simp only [hb141, bb] at hR)
        refine WK.condF rfl ?_
        refine WK.skip ?_
        refine WK.sr mixed ?_
        generalize hc129 : F12_crossroadslaw06_alive = c129 at hR
        try dsimp only at hR
        refine GX.callp (r := .bool c129) rfl rfl rfl (f12_ok  _ hc129) rfl rfl ?_
        refine GX.m rfl ?_
        rcases bool_two (c129) with hb142 | hb142
        ·rw [hb142]; first | replace hR := cond_f hb142 hR | (try simp only [hb142, bb] at hR)
         iterate 6 refine GX.skip rfl rfl ?_
         refine GX.q (.bool false) ?_
         refine GX.m rfl ?_
         refine GX.done ?_
         refine WK.ret ?_
         obtain rfl := Option.some.inj hR
         exact RetQ.fr [] (.inr rfl) rfl rfl rfl rfl
        ·rw [hb142]; first | replace hR := cond_t hb142 hR | (try simp only [hb142, bb] at hR)
         iterate 2 refine GX.m rfl ?_
         iterate 3 refine GX.skip rfl rfl ?_
         iterate 2 refine GX.q (.bool true) ?_
         refine GX.m rfl ?_
         refine GX.done ?_
         refine WK.ret ?_
         obtain rfl := Option.some.inj hR
         exact RetQ.fr [] (.inr rfl) rfl rfl rfl rfl
  ·rw [hb133]
   obtain ⟨x11, hx132, hd132, hlt132⟩ := drop_more hb133
   rw [hd132, F6_crossroadslaw06_TrieLongest_l1] at hL_132
   refine WK.condT rfl ?_
   refine WK.skip ?_
   refine WK.seq ?_
   refine WK.blockK (fun _ hK143 => ?_)
   refine WK.seq ?_
   refine WK.drawn mixed ?_
   iterate 2 refine RD.m rfl ?_
   rcases bool_two (there10) with hb144 | hb144
   ·rw [hb144]; try simp only [hb144, bb] at hL_132
    iterate 2 refine RD.m rfl ?_
    refine RD.idxT (c := TEntry.c) (x := x11) rfl rfl rfl (Int.natCast_nonneg _) hx132 ?_
    refine RD.q (.agg (TEntry.c x11)) ?_
    refine RD.q (.agg (TEntry.c c53a)) ?_
    iterate 2 refine RD.q (.bool (decide (x11.P.A = c53a.P.A) && (decide (x11.P.N = c53a.P.N) && (decide (x11.V = c53a.V) && true)))) ?_
    refine RD.m rfl ?_
    refine RD.done rfl ?_
    refine WK.seq ?_
    refine WK.drawn mixed ?_
    iterate 2 refine RD.m rfl ?_
    refine RD.idxT (c := TEntry.c) (x := x11) rfl rfl rfl (Int.natCast_nonneg _) hx132 ?_
    refine RD.q (.rptr (TEntry.c x11)) ?_
    refine RD.q (.agg [.int .u32 x11.P.A, .int .i64 x11.P.N]) ?_
    refine RD.m rfl ?_
    generalize hc79 : F27_crossroadsref03_Has x11.P a1 = c79 at hL_132
    try dsimp only at hL_132
    refine RD.callp (r := .bool c79) rfl rfl rfl (f27_ok x11.P a1 _ hc79) rfl rfl ?_
    refine RD.m rfl ?_
    rcases bool_two (c79) with hb145 | hb145
    ·rw [hb145]; try simp only [hb145, bb] at hL_132
     iterate 14 refine RD.skip rfl rfl ?_
     refine RD.q (.bool false) ?_
     refine RD.done rfl ?_
     refine WK.condF rfl ?_
     refine WK.skip ?_
     refine WK.nil (QF.normal (hK143 _ ?_))
     refine WK.regx mixed ?_
     refine GX.m rfl ?_
     refine GX.pure (v' := .int .i64 ((i11 + 1 : Nat) : Int)) rfl rfl rfl rfl (congrArg (PVal.int .i64) (wrap_up hlt132 hlen_132)) ?_
     refine GX.m rfl ?_
     refine GX.done ?_
     refine WK.nil (QF.normal ?_)
     exact hagain_132 _ (c57.length - (i11 + 1)) ⟨[(1, .int .u32 a1), (5, .ptr 0 0), (7, .ptr 3 0), (8, .bool ok8), (9, .ro 3 (c57.map TEntry.c)), (10, .bool (decide (x11.P.A = c53a.P.A) && (decide (x11.P.N = c53a.P.N) && (decide (x11.V = c53a.V) && true)))), (11, .int .i64 ((i11 + 1) : Int))], [(0, .box [.own 1 6 0 row1.length, .own 2 1 0 row2.length, .int .i64 t_2_5, .int .i64 t_3_5]), (1, .row 6 69 (row1.map TNode.c)), (2, .row 1 3 (row2.map c_i64)), (3, .box (TEntry.c c53a))], 4⟩ (by omega) (Conv.keep [0, 1, 2, 3] [] [1, 5, 7, 8, 9, 10, 11] rfl rfl (viewE_cons rfl rfl (viewE_cons rfl rfl (viewE_cons rfl rfl (viewE_cons rfl rfl (viewE_cons rfl rfl (viewE_cons rfl rfl (viewE_cons rfl rfl viewE_nil))))))) rfl rfl) ⟨i11 + 1, ok8, (decide (x11.P.A = c53a.P.A) && (decide (x11.P.N = c53a.P.N) && (decide (x11.V = c53a.V) && true))), (by omega), rfl, hL_132, rfl⟩
    ·rw [hb145]; try simp only [hb145, bb] at hL_132
     refine RD.m rfl ?_
     refine RD.q (.bool (!ok8)) ?_
     refine RD.m rfl ?_
     rcases bool_two (ok8) with hb146 | hb146
     ·rw [hb146]; try simp only [hb146, bb] at hL_132
      iterate 10 refine RD.skip rfl rfl ?_
      iterate 2 refine RD.q (.bool true) ?_
      refine RD.done rfl ?_
      refine WK.condT rfl ?_
      refine WK.sr mixed ?_
      refine GX.m rfl ?_
      refine GX.done ?_
      refine WK.ret ?_
      refine QF.ret ?_
      refine QF.ret (hQ_132 _ _ ?_)
      subst hL_132
      try dsimp only at hR
      obtain rfl := Option.some.inj hR
      exact RetQ.fr [] (.inr rfl) rfl rfl rfl rfl
     ·rw [hb146]; try simp only [hb146, bb] at hL_132
      iterate 2 refine RD.m rfl ?_
      refine RD.idxT (c := TEntry.c) (x := x11) rfl rfl rfl (Int.natCast_nonneg _) hx132 ?_
      refine RD.q (.rptr (TEntry.c x11)) ?_
      refine RD.q (.rptr [.int .i64 x11.P.N, .int .i64 x11.V]) ?_
      refine RD.q (.int .i64 x11.P.N) ?_
      refine RD.q (.ptr 3 0) ?_
      refine RD.q (.ptr 3 1) ?_
      refine RD.q (.int .i64 c53a.P.N) ?_
      iterate 3 refine RD.q (.bool (decide (c53a.P.N < x11.P.N))) ?_
      refine RD.done rfl ?_
      rcases bool_two (decide (c53a.P.N < x11.P.N)) with hb147 | hb147
      ·rw [hb147]; try simp only [hb147, bb] at hL_132
       refine WK.condF rfl ?_
       refine WK.skip ?_
       refine WK.nil (QF.normal (hK143 _ ?_))
       refine WK.regx mixed ?_
       refine GX.m rfl ?_
       refine GX.pure (v' := .int .i64 ((i11 + 1 : Nat) : Int)) rfl rfl rfl rfl (congrArg (PVal.int .i64) (wrap_up hlt132 hlen_132)) ?_
       refine GX.m rfl ?_
       refine GX.done ?_
       refine WK.nil (QF.normal ?_)
       exact hagain_132 _ (c57.length - (i11 + 1)) ⟨[(1, .int .u32 a1), (5, .ptr 0 0), (7, .ptr 3 0), (8, .bool true), (9, .ro 3 (c57.map TEntry.c)), (10, .bool (decide (x11.P.A = c53a.P.A) && (decide (x11.P.N = c53a.P.N) && (decide (x11.V = c53a.V) && true)))), (11, .int .i64 ((i11 + 1) : Int))], [(0, .box [.own 1 6 0 row1.length, .own 2 1 0 row2.length, .int .i64 t_2_5, .int .i64 t_3_5]), (1, .row 6 69 (row1.map TNode.c)), (2, .row 1 3 (row2.map c_i64)), (3, .box (TEntry.c c53a))], 4⟩ (by omega) (Conv.keep [0, 1, 2, 3] [] [1, 5, 7, 8, 9, 10, 11] rfl rfl (viewE_cons rfl rfl (viewE_cons rfl rfl (viewE_cons rfl rfl (viewE_cons rfl rfl (viewE_cons rfl rfl (viewE_cons rfl rfl (viewE_cons rfl rfl viewE_nil))))))) rfl rfl) ⟨i11 + 1, true, (decide (x11.P.A = c53a.P.A) && (decide (x11.P.N = c53a.P.N) && (decide (x11.V = c53a.V) && true))), (by omega), rfl, hL_132, rfl⟩
      ·rw [hb147]; try simp only [hb147, bb] at hL_132
       refine WK.condT rfl ?_
       refine WK.sr mixed ?_
       refine GX.m rfl ?_
       refine GX.done ?_
       refine WK.ret ?_
       refine QF.ret ?_
       refine QF.ret (hQ_132 _ _ ?_)
       subst hL_132
       try dsimp only at hR
       obtain rfl := Option.some.inj hR
       exact RetQ.fr [] (.inr rfl) rfl rfl rfl rfl
   ·rw [hb144]; try simp only [hb144, bb] at hL_132
    iterate 6 refine RD.skip rfl rfl ?_
    refine RD.q (.bool true) ?_
    refine RD.m rfl ?_
    refine RD.done rfl ?_
    refine WK.seq ?_
    refine WK.drawn mixed ?_
    iterate 2 refine RD.m rfl ?_
    refine RD.idxT (c := TEntry.c) (x := x11) rfl rfl rfl (Int.natCast_nonneg _) hx132 ?_
    refine RD.q (.rptr (TEntry.c x11)) ?_
    refine RD.q (.agg [.int .u32 x11.P.A, .int .i64 x11.P.N]) ?_
    refine RD.m rfl ?_
    generalize hc79 : F27_crossroadsref03_Has x11.P a1 = c79 at hL_132
    try dsimp only at hL_132
    refine RD.callp (r := .bool c79) rfl rfl rfl (f27_ok x11.P a1 _ hc79) rfl rfl ?_
    refine RD.m rfl ?_
    rcases bool_two (c79) with hb148 | hb148
    ·rw [hb148]; try simp only [hb148, bb] at hL_132
     iterate 14 refine RD.skip rfl rfl ?_
     refine RD.q (.bool false) ?_
     refine RD.done rfl ?_
     refine WK.condF rfl ?_
     refine WK.skip ?_
     refine WK.nil (QF.normal (hK143 _ ?_))
     refine WK.regx mixed ?_
     refine GX.m rfl ?_
     refine GX.pure (v' := .int .i64 ((i11 + 1 : Nat) : Int)) rfl rfl rfl rfl (congrArg (PVal.int .i64) (wrap_up hlt132 hlen_132)) ?_
     refine GX.m rfl ?_
     refine GX.done ?_
     refine WK.nil (QF.normal ?_)
     exact hagain_132 _ (c57.length - (i11 + 1)) ⟨[(1, .int .u32 a1), (5, .ptr 0 0), (7, .ptr 3 0), (8, .bool ok8), (9, .ro 3 (c57.map TEntry.c)), (10, .bool true), (11, .int .i64 ((i11 + 1) : Int))], [(0, .box [.own 1 6 0 row1.length, .own 2 1 0 row2.length, .int .i64 t_2_5, .int .i64 t_3_5]), (1, .row 6 69 (row1.map TNode.c)), (2, .row 1 3 (row2.map c_i64)), (3, .box (TEntry.c c53a))], 4⟩ (by omega) (Conv.keep [0, 1, 2, 3] [] [1, 5, 7, 8, 9, 10, 11] rfl rfl (viewE_cons rfl rfl (viewE_cons rfl rfl (viewE_cons rfl rfl (viewE_cons rfl rfl (viewE_cons rfl rfl (viewE_cons rfl rfl (viewE_cons rfl rfl viewE_nil))))))) rfl rfl) ⟨i11 + 1, ok8, true, (by omega), rfl, hL_132, rfl⟩
    ·rw [hb148]; try simp only [hb148, bb] at hL_132
     refine RD.m rfl ?_
     refine RD.q (.bool (!ok8)) ?_
     refine RD.m rfl ?_
     rcases bool_two (ok8) with hb149 | hb149
     ·rw [hb149]; try simp only [hb149, bb] at hL_132
      iterate 10 refine RD.skip rfl rfl ?_
      iterate 2 refine RD.q (.bool true) ?_
      refine RD.done rfl ?_
      refine WK.condT rfl ?_
      refine WK.sr mixed ?_
      refine GX.m rfl ?_
      refine GX.done ?_
      refine WK.ret ?_
      refine QF.ret ?_
      refine QF.ret (hQ_132 _ _ ?_)
      subst hL_132
      try dsimp only at hR
      obtain rfl := Option.some.inj hR
      exact RetQ.fr [] (.inr rfl) rfl rfl rfl rfl
     ·rw [hb149]; try simp only [hb149, bb] at hL_132
      iterate 2 refine RD.m rfl ?_
      refine RD.idxT (c := TEntry.c) (x := x11) rfl rfl rfl (Int.natCast_nonneg _) hx132 ?_
      refine RD.q (.rptr (TEntry.c x11)) ?_
      refine RD.q (.rptr [.int .i64 x11.P.N, .int .i64 x11.V]) ?_
      refine RD.q (.int .i64 x11.P.N) ?_
      refine RD.q (.ptr 3 0) ?_
      refine RD.q (.ptr 3 1) ?_
      refine RD.q (.int .i64 c53a.P.N) ?_
      iterate 3 refine RD.q (.bool (decide (c53a.P.N < x11.P.N))) ?_
      refine RD.done rfl ?_
      rcases bool_two (decide (c53a.P.N < x11.P.N)) with hb150 | hb150
      ·rw [hb150]; try simp only [hb150, bb] at hL_132
       refine WK.condF rfl ?_
       refine WK.skip ?_
       refine WK.nil (QF.normal (hK143 _ ?_))
       refine WK.regx mixed ?_
       refine GX.m rfl ?_
       refine GX.pure (v' := .int .i64 ((i11 + 1 : Nat) : Int)) rfl rfl rfl rfl (congrArg (PVal.int .i64) (wrap_up hlt132 hlen_132)) ?_
       refine GX.m rfl ?_
       refine GX.done ?_
       refine WK.nil (QF.normal ?_)
       exact hagain_132 _ (c57.length - (i11 + 1)) ⟨[(1, .int .u32 a1), (5, .ptr 0 0), (7, .ptr 3 0), (8, .bool true), (9, .ro 3 (c57.map TEntry.c)), (10, .bool true), (11, .int .i64 ((i11 + 1) : Int))], [(0, .box [.own 1 6 0 row1.length, .own 2 1 0 row2.length, .int .i64 t_2_5, .int .i64 t_3_5]), (1, .row 6 69 (row1.map TNode.c)), (2, .row 1 3 (row2.map c_i64)), (3, .box (TEntry.c c53a))], 4⟩ (by omega) (Conv.keep [0, 1, 2, 3] [] [1, 5, 7, 8, 9, 10, 11] rfl rfl (viewE_cons rfl rfl (viewE_cons rfl rfl (viewE_cons rfl rfl (viewE_cons rfl rfl (viewE_cons rfl rfl (viewE_cons rfl rfl (viewE_cons rfl rfl viewE_nil))))))) rfl rfl) ⟨i11 + 1, true, true, (by omega), rfl, hL_132, rfl⟩
      ·rw [hb150]; try simp only [hb150, bb] at hL_132
       refine WK.condT rfl ?_
       refine WK.sr mixed ?_
       refine GX.m rfl ?_
       refine GX.done ?_
       refine WK.ret ?_
       refine QF.ret ?_
       refine QF.ret (hQ_132 _ _ ?_)
       subst hL_132
       try dsimp only at hR
       obtain rfl := Option.some.inj hR
       exact RetQ.fr [] (.inr rfl) rfl rfl rfl rfl
 ·rw [hb103]
  obtain ⟨x6, hx102, hd102, hlt102⟩ := drop_more hb103
  rw [hd102, F6_crossroadslaw06_TrieLongest_l2] at hL_102
  refine GX.m rfl ?_
  iterate 2 refine GX.q (.bool (decide ((i6 : Int) < 150))) ?_
  refine GX.done ?_
  rcases bool_two (decide ((i6 : Int) < 150)) with hb151 | hb151
  ·rw [hb151]; try simp only [hb151, bb] at hL_102
   refine WK.condF rfl ?_
   refine WK.exit ?_
   refine QF.exit (hout_102 _ ?_)
   subst hL_102
   try dsimp only [cond_true, cond_false] at hR
   refine WK.sr mixed ?_
   iterate 2 refine GX.m rfl ?_
   generalize hc53 : F11_trie_Trie_Find (⟨row1, row2, t_2_5, t_3_5⟩ : TTrie) a1 = c53 at hR
   rcases c53 with _ | c53
   ·try dsimp only at hR
    cases hR
   try dsimp only at hR
   obtain ⟨c53a, c53b⟩ := c53; try dsimp only at hR
   refine GX.callx (r' := .tup [.agg (TEntry.c c53a), .bool c53b]) (heap' := [(0, .box [.own 1 6 0 row1.length, .own 2 1 0 row2.length, .int .i64 t_2_5, .int .i64 t_3_5]), (1, .row 6 69 (row1.map TNode.c)), (2, .row 1 3 (row2.map c_i64))]) (next' := 3) [0, 1, 2] [] rfl rfl rfl rfl rfl rfl (f11_ok (⟨row1, row2, t_2_5, t_3_5⟩ : TTrie) a1 _ hc53) (.inl rfl) rfl rfl rfl ?_
   refine GX.m rfl ?_
   refine GX.q (.agg (TEntry.c c53a)) ?_
   refine GX.q (.bool c53b) ?_
   refine GX.step (v' := .ptr 3 0) (heap' := [(0, .box [.own 1 6 0 row1.length, .own 2 1 0 row2.length, .int .i64 t_2_5, .int .i64 t_3_5]), (1, .row 6 69 (row1.map TNode.c)), (2, .row 1 3 (row2.map c_i64)), (3, .box [.int .u32 0, .int .i64 0, .int .i64 0])]) (next' := 4) rfl rfl rfl rfl rfl rfl rfl ?_
   refine GX.step0 (heap' := [(0, .box [.own 1 6 0 row1.length, .own 2 1 0 row2.length, .int .i64 t_2_5, .int .i64 t_3_5]), (1, .row 6 69 (row1.map TNode.c)), (2, .row 1 3 (row2.map c_i64)), (3, .box (TEntry.c c53a))]) (next' := 4) rfl rfl rfl rfl rfl ?_
   refine GX.m rfl ?_
   refine GX.done ?_
   refine WK.sr mixed ?_
   refine GX.m rfl ?_
   generalize hc57 : F14_trie_Trie_Walk (⟨row1, row2, t_2_5, t_3_5⟩ : TTrie) = c57 at hR
   rcases c57 with _ | c57
   ·try dsimp only at hR
    cases hR
   try dsimp only at hR
   try dsimp only at hR
   refine GX.callx (r' := .ro 3 (c57.map TEntry.c)) (heap' := [(0, .box [.own 1 6 0 row1.length, .own 2 1 0 row2.length, .int .i64 t_2_5, .int .i64 t_3_5]), (1, .row 6 69 (row1.map TNode.c)), (2, .row 1 3 (row2.map c_i64)), (3, .box (TEntry.c c53a))]) (next' := 4) [0, 1, 2] [] rfl rfl rfl rfl rfl rfl (f14_ok (⟨row1, row2, t_2_5, t_3_5⟩ : TTrie) _ hc57) (.inl rfl) rfl rfl rfl ?_
   refine GX.m rfl ?_
   refine GX.done ?_
   refine WK.sr mixed ?_
   refine GX.m rfl ?_
   refine GX.done ?_
   refine WK.seq ?_
   refine WK.sr mixed ?_
   refine GX.m rfl ?_
   refine GX.done ?_
   refine WK.len (t := 57) rfl (by simp) (fun hlen_180 => ?_)
   rw [List.length_map] at hlen_180
   generalize hZ_180 : F6_crossroadslaw06_TrieLongest_l1 a1 c53a c53b false c57 = Z_180 at hR
   refine WK.forK (fun k s => ∃ (i11 : Nat) (ok8 : Bool) (there10 : Bool), i11 ≤ c57.length ∧ k = c57.length - i11 ∧ F6_crossroadslaw06_TrieLongest_l1 a1 c53a ok8 there10 (c57.drop i11) = Z_180 ∧ s = ⟨[(1, .int .u32 a1), (5, .ptr 0 0), (7, .ptr 3 0), (8, .bool ok8), (9, .ro 3 (c57.map TEntry.c)), (10, .bool there10), (11, .int .i64 (i11 : Int))], [(0, .box [.own 1 6 0 row1.length, .own 2 1 0 row2.length, .int .i64 t_2_5, .int .i64 t_3_5]), (1, .row 6 69 (row1.map TNode.c)), (2, .row 1 3 (row2.map c_i64)), (3, .box (TEntry.c c53a))], 4⟩) c57.length ⟨⟨[(1, .int .u32 a1), (5, .ptr 0 0), (7, .ptr 3 0), (8, .bool c53b), (9, .ro 3 (c57.map TEntry.c)), (10, .bool false), (11, .int .i64 (0 : Int))], [(0, .box [.own 1 6 0 row1.length, .own 2 1 0 row2.length, .int .i64 t_2_5, .int .i64 t_3_5]), (1, .row 6 69 (row1.map TNode.c)), (2, .row 1 3 (row2.map c_i64)), (3, .box (TEntry.c c53a))], 4⟩, Conv.keep [0, 1, 2, 3] [] [1, 5, 7, 8, 9, 10, 11] rfl rfl (viewE_cons rfl rfl (viewE_cons rfl rfl (viewE_cons rfl rfl (viewE_cons rfl rfl (viewE_cons rfl rfl (viewE_cons rfl rfl (viewE_cons rfl rfl viewE_nil))))))) rfl rfl, 0, c53b, false, (by omega), rfl, hZ_180, rfl⟩ ?_
   rintro _ _ ⟨i11, ok8, there10, hi_180, rfl, hL_180, rfl⟩ again_180 out_180 Q_180 hagain_180 hout_180 hQ_180
   refine WK.seq ?_
   refine WK.sr mixed ?_
   iterate 2 refine GX.m rfl ?_
   refine GX.pure (v' := .int .i64 (c57.length : Int)) rfl rfl rfl rfl (len_map _ _) ?_
   refine GX.q (.bool (decide ((i11 : Int) < (c57.length : Int)))) ?_
   refine GX.done ?_
   rcases bool_two (decide ((i11 : Int) < (c57.length : Int))) with hb181 | hb181
   ·rw [hb181]
    rw [drop_end hb181, F6_crossroadslaw06_TrieLongest_l1] at hL_180
    refine WK.condF rfl ?_
    refine WK.exit ?_
    refine QF.exit (hout_180 _ ?_)
    subst hL_180
    try dsimp only [cond_true, cond_false] at hR
    refine WK.sr mixed ?_
    iterate 2 refine GX.m rfl ?_
    refine GX.q (.agg [.int .u32 a1, .int .i64 32]) ?_
    generalize hc99 : F22_trie_Trie_Above (⟨row1, row2, t_2_5, t_3_5⟩ : TTrie) (⟨a1, 32⟩ : TPrefix) = c99 at hR
    rcases c99 with _ | c99
    ·try dsimp only at hR
     cases hR
    try dsimp only at hR
    try dsimp only at hR
    refine GX.callx (r' := .ro 3 (c99.map TEntry.c)) (heap' := [(0, .box [.own 1 6 0 row1.length, .own 2 1 0 row2.length, .int .i64 t_2_5, .int .i64 t_3_5]), (1, .row 6 69 (row1.map TNode.c)), (2, .row 1 3 (row2.map c_i64)), (3, .box (TEntry.c c53a))]) (next' := 4) [0, 1, 2] [] rfl rfl rfl rfl rfl rfl (f22_ok (⟨row1, row2, t_2_5, t_3_5⟩ : TTrie) (⟨a1, 32⟩ : TPrefix) _ hc99) (.inl rfl) rfl rfl rfl ?_
    refine GX.m rfl ?_
    refine GX.done ?_
    iterate 2 refine WK.seq ?_
    refine WK.drawn mixed ?_
    iterate 2 refine RD.m rfl ?_
    refine RD.pure (v' := .int .i64 (c99.length : Int)) rfl rfl rfl rfl (len_map _ _) ?_
    refine RD.q (.bool (decide (0 < (c99.length : Int)))) ?_
    refine RD.q (.bool (!(ok8 == (decide (0 < (c99.length : Int)))))) ?_
    refine RD.m rfl ?_
    rcases bool_two (ok8 == (decide (0 < (c99.length : Int)))) with hb183 | hb183
    ·rw [hb183]; first | replace hR := cond_f hb183 hR | (try simp only [hb183, bb] at hR)
     iterate 22 refine RD.skip rfl rfl ?_
     refine RD.q (.bool true) ?_
     refine RD.doneB [0, 0, 2, 6, 15, 31, 63, 127, 255, 255, 767, 1791, 4095, 8191, 255, 32767, 65535, 131071, 262143, 524287, 1048575, 2097151, 4194303, 2097151, 16777215, 33554431, 67108863, 134217727, 268435455] (by kernel_rfl) (by kernel_rfl) (by kernel_rfl) ?_
     refine WK.condT rfl ?_
     refine WK.sr mixed ?_
     refine GX.m rfl ?_
     refine GX.done ?_
     refine WK.ret ?_
     obtain rfl := Option.some.inj hR
     exact RetQ.fr [] (.inr rfl) rfl rfl rfl rfl
    ·rw [hb183]; first | replace hR := cond_t hb183 hR | (try simp only [hb183, bb] at hR)
     iterate 2 refine RD.m rfl ?_
     rcases bool_two (ok8) with hb184 | hb184
     ·rw [hb184]; first | replace hR := cond_f hb184 hR | (try simp only [hb184, bb] at hR)
      iterate 19 refine RD.skip rfl rfl ?_
      iterate 2 refine RD.q (.bool false) ?_
      refine RD.doneB [0, 0, 2, 6, 15, 31, 63, 127, 255, 255, 767, 1791, 4095, 8191, 255, 32767, 65535, 131071, 262143, 524287, 1048575, 2097151, 4194303, 2097151, 16777215, 33554431, 67108863, 134217727, 268435455] (by kernel_rfl) (by kernel_rfl) (by kernel_rfl) ?_
      refine WK.condF rfl ?_
      refine WK.skip ?_
      refine WK.sr mixed ?_
      generalize hc129 : F12_crossroadslaw06_alive = c129 at hR
      try dsimp only at hR
      refine GX.callp (r := .bool c129) rfl rfl rfl (f12_ok  _ hc129) rfl rfl ?_
      refine GX.m rfl ?_
      rcases bool_two (c129) with hb185 | hb185
      ·rw [hb185]; first | replace hR := cond_f hb185 hR | (try simp only [hb185, bb] at hR)
       iterate 6 refine GX.skip rfl rfl ?_
       refine GX.q (.bool false) ?_
       refine GX.m rfl ?_
       refine GX.done ?_
       refine WK.ret ?_
       obtain rfl := Option.some.inj hR
       exact RetQ.fr [] (.inr rfl) rfl rfl rfl rfl
      ·rw [hb185]; first | replace hR := cond_t hb185 hR | (try simp only [hb185, bb] at hR)
       iterate 2 refine GX.m rfl ?_
       refine GX.q (.agg (TEntry.c c53a)) ?_
       refine GX.q (.agg [.int .u32 0, .int .i64 0, .int .i64 0]) ?_
       iterate 3 refine GX.q (.bool (decide (c53a.P.A = 0) && (decide (c53a.P.N = 0) && (decide (c53a.V = 0) && true)))) ?_
       refine GX.m rfl ?_
       refine GX.done ?_
       refine WK.ret ?_
       obtain rfl := Option.some.inj hR
       exact RetQ.fr [] (.inr rfl) rfl rfl rfl rfl
     ·rw [hb184]; first | replace hR := cond_t hb184 hR | (try simp only [hb184, bb] at hR)
      iterate 2 refine RD.m rfl ?_
      refine RD.pure (v' := .int .i64 (c99.length : Int)) rfl rfl rfl rfl (len_map _ _) ?_
      refine RD.q (.int .i64 (IntKind.i64.wrap ((c99.length : Int) - 1))) ?_
      generalize hx1085 : getI c99 (IntKind.i64.wrap ((c99.length : Int) - 1)) = x1085 at hR
      rcases x1085 with _ | x1085
      ·try dsimp only at hR
       cases hR
      try dsimp only at hR
      obtain ⟨hx10850, hx1085j, hx1085l, hx1085⟩ := getI_some hx1085
      refine RD.idxT (c := TEntry.c) (x := x1085) rfl rfl rfl hx10850 hx1085 ?_
      refine RD.q (.agg (TEntry.c x1085)) ?_
      refine RD.q (.agg (TEntry.c c53a)) ?_
      refine RD.q (.bool (!(decide (x1085.P.A = c53a.P.A) && (decide (x1085.P.N = c53a.P.N) && (decide (x1085.V = c53a.V) && true))))) ?_
      refine RD.m rfl ?_
      rcases bool_two (decide (x1085.P.A = c53a.P.A) && (decide (x1085.P.N = c53a.P.N) && (decide (x1085.V = c53a.V) && true))) with hb187 | hb187
      ·rw [hb187]; try simp only [hb187, bb] at hR
       iterate 2 refine RD.skip rfl rfl ?_
       refine RD.q (.bool true) ?_
       refine RD.m rfl ?_
       iterate 5 refine RD.skip rfl rfl ?_
       iterate 3 refine RD.q (.bool true) ?_
       refine RD.doneB [0, 0, 2, 6, 15, 31, 63, 127, 255, 255, 767, 1791, 4095, 8191, 255, 32767, 65535, 131071, 262143, 524287, 1048575, 2097151, 4194303, 2097151, 16777215, 33554431, 67108863, 134217727, 268435455] (by kernel_rfl) (by kernel_rfl) (by kernel_rfl) ?_
       refine WK.condT rfl ?_
       refine WK.sr mixed ?_
       refine GX.m rfl ?_
       refine GX.done ?_
       refine WK.ret ?_
       obtain rfl := Option.some.inj hR
       exact RetQ.fr [] (.inr rfl) rfl rfl rfl rfl
      ·rw [hb187]; try simp only [hb187, bb] at hR
       refine RD.m rfl ?_
       iterate 2 refine RD.q (.bool (!there10)) ?_
       refine RD.m rfl ?_
       rcases bool_two (there10) with hb188 | hb188
       ·rw [hb188]; first | replace hR := cond_f hb188 hR | (try simp only [hb188, bb] at hR)
        iterate 5 refine RD.skip rfl rfl ?_
        iterate 3 refine RD.q (.bool true) ?_
        refine RD.doneB [0, 0, 2, 6, 15, 31, 63, 127, 255, 255, 767, 1791, 4095, 8191, 255, 32767, 65535, 131071, 262143, 524287, 1048575, 2097151, 4194303, 2097151, 16777215, 33554431, 67108863, 134217727, 268435455] (by kernel_rfl) (by kernel_rfl) (by kernel_rfl) ?_
        refine WK.condT rfl ?_
        refine WK.sr mixed ?_
        refine GX.m rfl ?_
        refine GX.done ?_
        refine WK.ret ?_
        obtain rfl := Option.some.inj hR
        exact RetQ.fr [] (.inr rfl) rfl rfl rfl rfl
       ·rw [hb188]; first | replace hR := cond_t hb188 hR | (try simp only [hb188, bb] at hR)
        refine RD.q (.ptr 3 0) ?_
        refine RD.q (.agg [.int .u32 c53a.P.A, .int .i64 c53a.P.N]) ?_
        refine RD.m rfl ?_
        generalize hc124 : F27_crossroadsref03_Has c53a.P a1 = c124 at hR
        try dsimp only at hR
        refine RD.callp (r := .bool c124) rfl rfl rfl (f27_ok c53a.P a1 _ hc124) rfl rfl ?_
        iterate 4 refine RD.q (.bool (!c124)) ?_
        refine RD.doneB [0, 0, 2, 6, 15, 31, 63, 127, 255, 255, 767, 1791, 4095, 8191, 255, 32767, 65535, 131071, 262143, 524287, 1048575, 2097151, 4194303, 2097151, 16777215, 33554431, 67108863, 134217727, 268435455] (by kernel_rfl) (by kernel_rfl) (by kernel_rfl) ?_
        rcases bool_two (c124) with hb189 | hb189
        ·rw [hb189]; first | replace hR := cond_f hb189 hR | (try simp only [hb189, bb] at hR)
         refine WK.condT rfl ?_
         refine WK.sr mixed ?_
         refine GX.m rfl ?_
         refine GX.done ?_
         refine WK.ret ?_
         obtain rfl := Option.some.inj hR
         exact RetQ.fr [] (.inr rfl) rfl rfl rfl rfl
        ·rw [hb189]; first | replace hR := cond_t hb189 hR | (try simp only [hb189, bb] at hR)
         refine WK.condF rfl ?_
         refine WK.skip ?_
         refine WK.sr mixed ?_
         generalize hc129 : F12_crossroadslaw06_alive = c129 at hR
         try dsimp only at hR
         refine GX.callp (r := .bool c129) rfl rfl rfl (f12_ok  _ hc129) rfl rfl ?_
         refine GX.m rfl ?_
         rcases bool_two (c129) with hb190 | hb190
         ·rw [hb190]; first | replace hR := cond_f hb190 hR | (try simp only [hb190, bb] at hR)
          iterate 6 refine GX.skip rfl rfl ?_
          refine GX.q (.bool false) ?_
          refine GX.m rfl ?_
          refine GX.done ?_
          refine WK.ret ?_
          obtain rfl := Option.some.inj hR
          exact RetQ.fr [] (.inr rfl) rfl rfl rfl rfl
         ·rw [hb190]; first | replace hR := cond_t hb190 hR | (try simp only [hb190, bb] at hR)
          iterate 2 refine GX.m rfl ?_
          iterate 3 refine GX.skip rfl rfl ?_
          iterate 2 refine GX.q (.bool true) ?_
          refine GX.m rfl ?_
          refine GX.done ?_
          refine WK.ret ?_
          obtain rfl := Option.some.inj hR
          exact RetQ.fr [] (.inr rfl) rfl rfl rfl rfl
   ·rw [hb181]
    obtain ⟨x11, hx180, hd180, hlt180⟩ := drop_more hb181
    rw [hd180, F6_crossroadslaw06_TrieLongest_l1] at hL_180
    refine WK.condT rfl ?_
    refine WK.skip ?_
    refine WK.seq ?_
    refine WK.blockK (fun _ hK191 => ?_)
    refine WK.seq ?_
    refine WK.drawn mixed ?_
    iterate 2 refine RD.m rfl ?_
    rcases bool_two (there10) with hb192 | hb192
    ·rw [hb192]; try simp only [hb192, bb] at hL_180
     iterate 2 refine RD.m rfl ?_
     refine RD.idxT (c := TEntry.c) (x := x11) rfl rfl rfl (Int.natCast_nonneg _) hx180 ?_
     refine RD.q (.agg (TEntry.c x11)) ?_
     refine RD.q (.agg (TEntry.c c53a)) ?_
     iterate 2 refine RD.q (.bool (decide (x11.P.A = c53a.P.A) && (decide (x11.P.N = c53a.P.N) && (decide (x11.V = c53a.V) && true)))) ?_
     refine RD.m rfl ?_
     refine RD.done rfl ?_
     refine WK.seq ?_
     refine WK.drawn mixed ?_
     iterate 2 refine RD.m rfl ?_
     refine RD.idxT (c := TEntry.c) (x := x11) rfl rfl rfl (Int.natCast_nonneg _) hx180 ?_
     refine RD.q (.rptr (TEntry.c x11)) ?_
     refine RD.q (.agg [.int .u32 x11.P.A, .int .i64 x11.P.N]) ?_
     refine RD.m rfl ?_
     generalize hc79 : F27_crossroadsref03_Has x11.P a1 = c79 at hL_180
     try dsimp only at hL_180
     refine RD.callp (r := .bool c79) rfl rfl rfl (f27_ok x11.P a1 _ hc79) rfl rfl ?_
     refine RD.m rfl ?_
     rcases bool_two (c79) with hb193 | hb193
     ·rw [hb193]; try simp only [hb193, bb] at hL_180
      iterate 14 refine RD.skip rfl rfl ?_
      refine RD.q (.bool false) ?_
      refine RD.done rfl ?_
      refine WK.condF rfl ?_
      refine WK.skip ?_
      refine WK.nil (QF.normal (hK191 _ ?_))
      refine WK.regx mixed ?_
      refine GX.m rfl ?_
      refine GX.pure (v' := .int .i64 ((i11 + 1 : Nat) : Int)) rfl rfl rfl rfl (congrArg (PVal.int .i64) (wrap_up hlt180 hlen_180)) ?_
      refine GX.m rfl ?_
      refine GX.done ?_
      refine WK.nil (QF.normal ?_)
      exact hagain_180 _ (c57.length - (i11 + 1)) ⟨[(1, .int .u32 a1), (5, .ptr 0 0), (7, .ptr 3 0), (8, .bool ok8), (9, .ro 3 (c57.map TEntry.c)), (10, .bool (decide (x11.P.A = c53a.P.A) && (decide (x11.P.N = c53a.P.N) && (decide (x11.V = c53a.V) && true)))), (11, .int .i64 ((i11 + 1) : Int))], [(0, .box [.own 1 6 0 row1.length, .own 2 1 0 row2.length, .int .i64 t_2_5, .int .i64 t_3_5]), (1, .row 6 69 (row1.map TNode.c)), (2, .row 1 3 (row2.map c_i64)), (3, .box (TEntry.c c53a))], 4⟩ (by omega) (Conv.keep [0, 1, 2, 3] [] [1, 5, 7, 8, 9, 10, 11] rfl rfl (viewE_cons rfl rfl (viewE_cons rfl rfl (viewE_cons rfl rfl (viewE_cons rfl rfl (viewE_cons rfl rfl (viewE_cons rfl rfl (viewE_cons rfl rfl viewE_nil))))))) rfl rfl) ⟨i11 + 1, ok8, (decide (x11.P.A = c53a.P.A) && (decide (x11.P.N = c53a.P.N) && (decide (x11.V = c53a.V) && true))), (by omega), rfl, hL_180, rfl⟩
     ·rw [hb193]; try simp only [hb193, bb] at hL_180
      refine RD.m rfl ?_
      refine RD.q (.bool (!ok8)) ?_
      refine RD.m rfl ?_
      rcases bool_two (ok8) with hb194 | hb194
      ·rw [hb194]; try simp only [hb194, bb] at hL_180
       iterate 10 refine RD.skip rfl rfl ?_
       iterate 2 refine RD.q (.bool true) ?_
       refine RD.done rfl ?_
       refine WK.condT rfl ?_
       refine WK.sr mixed ?_
       refine GX.m rfl ?_
       refine GX.done ?_
       refine WK.ret ?_
       refine QF.ret ?_
       refine QF.ret (hQ_180 _ _ ?_)
       subst hL_180
       try dsimp only at hR
       obtain rfl := Option.some.inj hR
       exact RetQ.fr [] (.inr rfl) rfl rfl rfl rfl
      ·rw [hb194]; try simp only [hb194, bb] at hL_180
       iterate 2 refine RD.m rfl ?_
       refine RD.idxT (c := TEntry.c) (x := x11) rfl rfl rfl (Int.natCast_nonneg _) hx180 ?_
       refine RD.q (.rptr (TEntry.c x11)) ?_
       refine RD.q (.rptr [.int .i64 x11.P.N, .int .i64 x11.V]) ?_
       refine RD.q (.int .i64 x11.P.N) ?_
       refine RD.q (.ptr 3 0) ?_
       refine RD.q (.ptr 3 1) ?_
       refine RD.q (.int .i64 c53a.P.N) ?_
       iterate 3 refine RD.q (.bool (decide (c53a.P.N < x11.P.N))) ?_
       refine RD.done rfl ?_
       rcases bool_two (decide (c53a.P.N < x11.P.N)) with hb195 | hb195
       ·rw [hb195]; try simp only [hb195, bb] at hL_180
        refine WK.condF rfl ?_
        refine WK.skip ?_
        refine WK.nil (QF.normal (hK191 _ ?_))
        refine WK.regx mixed ?_
        refine GX.m rfl ?_
        refine GX.pure (v' := .int .i64 ((i11 + 1 : Nat) : Int)) rfl rfl rfl rfl (congrArg (PVal.int .i64) (wrap_up hlt180 hlen_180)) ?_
        refine GX.m rfl ?_
        refine GX.done ?_
        refine WK.nil (QF.normal ?_)
        exact hagain_180 _ (c57.length - (i11 + 1)) ⟨[(1, .int .u32 a1), (5, .ptr 0 0), (7, .ptr 3 0), (8, .bool true), (9, .ro 3 (c57.map TEntry.c)), (10, .bool (decide (x11.P.A = c53a.P.A) && (decide (x11.P.N = c53a.P.N) && (decide (x11.V = c53a.V) && true)))), (11, .int .i64 ((i11 + 1) : Int))], [(0, .box [.own 1 6 0 row1.length, .own 2 1 0 row2.length, .int .i64 t_2_5, .int .i64 t_3_5]), (1, .row 6 69 (row1.map TNode.c)), (2, .row 1 3 (row2.map c_i64)), (3, .box (TEntry.c c53a))], 4⟩ (by omega) (Conv.keep [0, 1, 2, 3] [] [1, 5, 7, 8, 9, 10, 11] rfl rfl (viewE_cons rfl rfl (viewE_cons rfl rfl (viewE_cons rfl rfl (viewE_cons rfl rfl (viewE_cons rfl rfl (viewE_cons rfl rfl (viewE_cons rfl rfl viewE_nil))))))) rfl rfl) ⟨i11 + 1, true, (decide (x11.P.A = c53a.P.A) && (decide (x11.P.N = c53a.P.N) && (decide (x11.V = c53a.V) && true))), (by omega), rfl, hL_180, rfl⟩
       ·rw [hb195]; try simp only [hb195, bb] at hL_180
        refine WK.condT rfl ?_
        refine WK.sr mixed ?_
        refine GX.m rfl ?_
        refine GX.done ?_
        refine WK.ret ?_
        refine QF.ret ?_
        refine QF.ret (hQ_180 _ _ ?_)
        subst hL_180
        try dsimp only at hR
        obtain rfl := Option.some.inj hR
        exact RetQ.fr [] (.inr rfl) rfl rfl rfl rfl
    ·rw [hb192]; try simp only [hb192, bb] at hL_180
     iterate 6 refine RD.skip rfl rfl ?_
     refine RD.q (.bool true) ?_
     refine RD.m rfl ?_
     refine RD.done rfl ?_
     refine WK.seq ?_
     refine WK.drawn mixed ?_
     iterate 2 refine RD.m rfl ?_
     refine RD.idxT (c := TEntry.c) (x := x11) rfl rfl rfl (Int.natCast_nonneg _) hx180 ?_
     refine RD.q (.rptr (TEntry.c x11)) ?_
     refine RD.q (.agg [.int .u32 x11.P.A, .int .i64 x11.P.N]) ?_
     refine RD.m rfl ?_
     generalize hc79 : F27_crossroadsref03_Has x11.P a1 = c79 at hL_180
     try dsimp only at hL_180
     refine RD.callp (r := .bool c79) rfl rfl rfl (f27_ok x11.P a1 _ hc79) rfl rfl ?_
     refine RD.m rfl ?_
     rcases bool_two (c79) with hb196 | hb196
     ·rw [hb196]; try simp only [hb196, bb] at hL_180
      iterate 14 refine RD.skip rfl rfl ?_
      refine RD.q (.bool false) ?_
      refine RD.done rfl ?_
      refine WK.condF rfl ?_
      refine WK.skip ?_
      refine WK.nil (QF.normal (hK191 _ ?_))
      refine WK.regx mixed ?_
      refine GX.m rfl ?_
      refine GX.pure (v' := .int .i64 ((i11 + 1 : Nat) : Int)) rfl rfl rfl rfl (congrArg (PVal.int .i64) (wrap_up hlt180 hlen_180)) ?_
      refine GX.m rfl ?_
      refine GX.done ?_
      refine WK.nil (QF.normal ?_)
      exact hagain_180 _ (c57.length - (i11 + 1)) ⟨[(1, .int .u32 a1), (5, .ptr 0 0), (7, .ptr 3 0), (8, .bool ok8), (9, .ro 3 (c57.map TEntry.c)), (10, .bool true), (11, .int .i64 ((i11 + 1) : Int))], [(0, .box [.own 1 6 0 row1.length, .own 2 1 0 row2.length, .int .i64 t_2_5, .int .i64 t_3_5]), (1, .row 6 69 (row1.map TNode.c)), (2, .row 1 3 (row2.map c_i64)), (3, .box (TEntry.c c53a))], 4⟩ (by omega) (Conv.keep [0, 1, 2, 3] [] [1, 5, 7, 8, 9, 10, 11] rfl rfl (viewE_cons rfl rfl (viewE_cons rfl rfl (viewE_cons rfl rfl (viewE_cons rfl rfl (viewE_cons rfl rfl (viewE_cons rfl rfl (viewE_cons rfl rfl viewE_nil))))))) rfl rfl) ⟨i11 + 1, ok8, true, (by omega), rfl, hL_180, rfl⟩
     ·rw [hb196]; try simp only [hb196, bb] at hL_180
      refine RD.m rfl ?_
      refine RD.q (.bool (!ok8)) ?_
      refine RD.m rfl ?_
      rcases bool_two (ok8) with hb197 | hb197
      ·rw [hb197]; try simp only [hb197, bb] at hL_180
       iterate 10 refine RD.skip rfl rfl ?_
       iterate 2 refine RD.q (.bool true) ?_
       refine RD.done rfl ?_
       refine WK.condT rfl ?_
       refine WK.sr mixed ?_
       refine GX.m rfl ?_
       refine GX.done ?_
       refine WK.ret ?_
       refine QF.ret ?_
       refine QF.ret (hQ_180 _ _ ?_)
       subst hL_180
       try dsimp only at hR
       obtain rfl := Option.some.inj hR
       exact RetQ.fr [] (.inr rfl) rfl rfl rfl rfl
      ·rw [hb197]; try simp only [hb197, bb] at hL_180
       iterate 2 refine RD.m rfl ?_
       refine RD.idxT (c := TEntry.c) (x := x11) rfl rfl rfl (Int.natCast_nonneg _) hx180 ?_
       refine RD.q (.rptr (TEntry.c x11)) ?_
       refine RD.q (.rptr [.int .i64 x11.P.N, .int .i64 x11.V]) ?_
       refine RD.q (.int .i64 x11.P.N) ?_
       refine RD.q (.ptr 3 0) ?_
       refine RD.q (.ptr 3 1) ?_
       refine RD.q (.int .i64 c53a.P.N) ?_
       iterate 3 refine RD.q (.bool (decide (c53a.P.N < x11.P.N))) ?_
       refine RD.done rfl ?_
       rcases bool_two (decide (c53a.P.N < x11.P.N)) with hb198 | hb198
       ·rw [hb198]; try simp only [hb198, bb] at hL_180
        refine WK.condF rfl ?_
        refine WK.skip ?_
        refine WK.nil (QF.normal (hK191 _ ?_))
        refine WK.regx mixed ?_
        refine GX.m rfl ?_
        refine GX.pure (v' := .int .i64 ((i11 + 1 : Nat) : Int)) rfl rfl rfl rfl (congrArg (PVal.int .i64) (wrap_up hlt180 hlen_180)) ?_
        refine GX.m rfl ?_
        refine GX.done ?_
        refine WK.nil (QF.normal ?_)
        exact hagain_180 _ (c57.length - (i11 + 1)) ⟨[(1, .int .u32 a1), (5, .ptr 0 0), (7, .ptr 3 0), (8, .bool true), (9, .ro 3 (c57.map TEntry.c)), (10, .bool true), (11, .int .i64 ((i11 + 1) : Int))], [(0, .box [.own 1 6 0 row1.length, .own 2 1 0 row2.length, .int .i64 t_2_5, .int .i64 t_3_5]), (1, .row 6 69 (row1.map TNode.c)), (2, .row 1 3 (row2.map c_i64)), (3, .box (TEntry.c c53a))], 4⟩ (by omega) (Conv.keep [0, 1, 2, 3] [] [1, 5, 7, 8, 9, 10, 11] rfl rfl (viewE_cons rfl rfl (viewE_cons rfl rfl (viewE_cons rfl rfl (viewE_cons rfl rfl (viewE_cons rfl rfl (viewE_cons rfl rfl (viewE_cons rfl rfl viewE_nil))))))) rfl rfl) ⟨i11 + 1, true, true, (by omega), rfl, hL_180, rfl⟩
       ·rw [hb198]; try simp only [hb198, bb] at hL_180
        refine WK.condT rfl ?_
        refine WK.sr mixed ?_
        refine GX.m rfl ?_
        refine GX.done ?_
        refine WK.ret ?_
        refine QF.ret ?_
        refine QF.ret (hQ_180 _ _ ?_)
        subst hL_180
        try dsimp only at hR
        obtain rfl := Option.some.inj hR
        exact RetQ.fr [] (.inr rfl) rfl rfl rfl rfl
  ·rw [hb151]; try simp only [hb151, bb] at hL_102
   refine WK.condT rfl ?_
   refine WK.skip ?_
   refine WK.seq ?_
   refine WK.blockK (fun _ hK199 => ?_)
   refine WK.sr mixed ?_
   iterate 2 refine GX.m rfl ?_
   refine GX.idxT (c := TAct.c) (x := x6) rfl rfl rfl (Int.natCast_nonneg _) hx102 ?_
   refine GX.q (.rptr (TAct.c x6)) ?_
   refine GX.q (.bool x6.Drop) ?_
   refine GX.done ?_
   rcases bool_two (x6.Drop) with hb200 | hb200
   ·rw [hb200]; try simp only [hb200, bb] at hL_102
    refine WK.condF rfl ?_
    refine WK.drawn mixed ?_
    iterate 3 refine RD.m rfl ?_
    refine RD.idxT (c := TAct.c) (x := x6) rfl rfl rfl (Int.natCast_nonneg _) hx102 ?_
    refine RD.q (.rptr [.int .u32 x6.P.A, .int .i64 x6.P.N, .int .i64 x6.V, .int .u32 x6.A]) ?_
    refine RD.q (.agg [.int .u32 x6.P.A, .int .i64 x6.P.N]) ?_
    iterate 2 refine RD.m rfl ?_
    refine RD.idxT (c := TAct.c) (x := x6) rfl rfl rfl (Int.natCast_nonneg _) hx102 ?_
    refine RD.q (.rptr [.int .i64 x6.V, .int .u32 x6.A]) ?_
    refine RD.q (.int .i64 x6.V) ?_
    generalize hc49 : F10_trie_Trie_Set (⟨row1, row2, t_2_5, t_3_5⟩ : TTrie) x6.P x6.V = c49 at hL_102
    rcases c49 with _ | c49
    ·try dsimp only at hL_102
     subst hL_102
     try dsimp only at hR
     cases hR
    try dsimp only at hL_102
    obtain ⟨c49a, c49b⟩ := c49; try dsimp only at hL_102
    refine RD.callx (r' := .int .i64 c49a) (heap' := [(0, .box [.own 3 6 0 c49b.l.length, .own 4 1 0 c49b.free.length, .int .i64 c49b.root, .int .i64 c49b.n]), (4, .row 1 3 (c49b.free.map c_i64)), (3, .row 6 69 (c49b.l.map TNode.c))]) (next' := 5) [0, 1, 2] [] rfl rfl rfl rfl rfl rfl (f10_ok (⟨row1, row2, t_2_5, t_3_5⟩ : TTrie) x6.P x6.V _ hc49) (.inl rfl) rfl rfl rfl ?_
    refine RD.done rfl ?_
    refine WK.nil (QF.normal (hK199 _ ?_))
    refine WK.regx mixed ?_
    refine GX.m rfl ?_
    refine GX.pure (v' := .int .i64 ((i6 + 1 : Nat) : Int)) rfl rfl rfl rfl (congrArg (PVal.int .i64) (wrap_up hlt102 hlen_102)) ?_
    refine GX.m rfl ?_
    refine GX.done ?_
    refine WK.nil (QF.normal ?_)
    exact hagain_102 _ (script0.length - (i6 + 1)) ⟨[(0, .ro 5 (script0.map TAct.c)), (1, .int .u32 a1), (5, .ptr 0 0), (6, .int .i64 ((i6 + 1) : Int))], [(0, .box [.own 1 6 0 c49b.l.length, .own 2 1 0 c49b.free.length, .int .i64 c49b.root, .int .i64 c49b.n]), (1, .row 6 69 (c49b.l.map TNode.c)), (2, .row 1 3 (c49b.free.map c_i64))], 3⟩ (by omega) (Conv.keep [0, 3, 4] [] [0, 1, 5, 6] rfl rfl (viewE_cons rfl rfl (viewE_cons rfl rfl (viewE_cons rfl rfl (viewE_cons rfl rfl viewE_nil)))) rfl rfl) ⟨i6 + 1, c49b.root, c49b.n, c49b.l, c49b.free, (by omega), rfl, hL_102, rfl⟩
   ·rw [hb200]; try simp only [hb200, bb] at hL_102
    refine WK.condT rfl ?_
    refine WK.regx mixed ?_
    iterate 3 refine GX.m rfl ?_
    refine GX.idxT (c := TAct.c) (x := x6) rfl rfl rfl (Int.natCast_nonneg _) hx102 ?_
    refine GX.q (.rptr [.int .u32 x6.P.A, .int .i64 x6.P.N, .int .i64 x6.V, .int .u32 x6.A]) ?_
    refine GX.q (.agg [.int .u32 x6.P.A, .int .i64 x6.P.N]) ?_
    generalize hc37 : F16_trie_Trie_Drop (⟨row1, row2, t_2_5, t_3_5⟩ : TTrie) x6.P = c37 at hL_102
    rcases c37 with _ | c37
    ·try dsimp only at hL_102
     subst hL_102
     try dsimp only at hR
     cases hR
    try dsimp only at hL_102
    obtain ⟨c37a, c37b⟩ := c37; try dsimp only at hL_102
    refine GX.callx (r' := .bool c37a) (heap' := [(0, .box [.own 3 6 0 c37b.l.length, .own 4 1 0 c37b.free.length, .int .i64 c37b.root, .int .i64 c37b.n]), (4, .row 1 3 (c37b.free.map c_i64)), (3, .row 6 69 (c37b.l.map TNode.c))]) (next' := 5) [0, 1, 2] [] rfl rfl rfl rfl rfl rfl (f16_ok (⟨row1, row2, t_2_5, t_3_5⟩ : TTrie) x6.P _ hc37) (.inl rfl) rfl rfl rfl ?_
    refine GX.done ?_
    refine WK.nil (QF.normal (hK199 _ ?_))
    refine WK.regx mixed ?_
    refine GX.m rfl ?_
    refine GX.pure (v' := .int .i64 ((i6 + 1 : Nat) : Int)) rfl rfl rfl rfl (congrArg (PVal.int .i64) (wrap_up hlt102 hlen_102)) ?_
    refine GX.m rfl ?_
    refine GX.done ?_
    refine WK.nil (QF.normal ?_)
    exact hagain_102 _ (script0.length - (i6 + 1)) ⟨[(0, .ro 5 (script0.map TAct.c)), (1, .int .u32 a1), (5, .ptr 0 0), (6, .int .i64 ((i6 + 1) : Int))], [(0, .box [.own 1 6 0 c37b.l.length, .own 2 1 0 c37b.free.length, .int .i64 c37b.root, .int .i64 c37b.n]), (1, .row 6 69 (c37b.l.map TNode.c)), (2, .row 1 3 (c37b.free.map c_i64))], 3⟩ (by omega) (Conv.keep [0, 3, 4] [] [0, 1, 5, 6] rfl rfl (viewE_cons rfl rfl (viewE_cons rfl rfl (viewE_cons rfl rfl (viewE_cons rfl rfl viewE_nil)))) rfl rfl) ⟨i6 + 1, c37b.root, c37b.n, c37b.l, c37b.free, (by omega), rfl, hL_102, rfl⟩

end Go.Proofs.Ytakallenldpkiaa.Abs
