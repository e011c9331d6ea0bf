/- The functions walked: each computes its Lean function (printed by this work's own program gen.py). -/
import Derived.Test.YtakallenldpkiaaSz
import Derived.Test.YtakallenldpkiaaW1
set_option linter.unusedVariables false
set_option linter.unusedSimpArgs false
set_option maxRecDepth 10000
set_option maxHeartbeats 4000000
namespace Go.Proofs.Ytakallenldpkiaa.Abs
open Go

theorem f7_ok (script0 : List TAct) (p1 : TPrefix) (v2 : Int) (R : Bool) (hR : F7_crossroadslaw06_TrieOrder script0 p1 v2 = some R) : FnOk Try.prog 7 [.ro 5 (script0.map TAct.c), .agg (TPrefix.c p1), .int .i64 v2] [] 0 (.bool R) [] 0 := by
 refine FnOk.wk i7 rfl rfl ?_
 unfold F7_crossroadslaw06_TrieOrder at hR
 try dsimp only at hR
 change WK _ _ _ [ac7] _ ⟨[(0, .ro 5 (script0.map TAct.c)), (1, .agg (TPrefix.c p1)), (2, .int .i64 v2)], [], 0⟩
 unfold ac7
 refine WK.sr mixed ?_
 refine GX.step (v' := .ptr 0 0) (heap' := [(0, .box (TPrefix.c p1))]) (next' := 1) rfl rfl rfl rfl rfl rfl rfl ?_
 refine GX.m rfl ?_
 refine GX.done ?_
 refine WK.sr mixed ?_
 generalize hc22 : F9_trie_New = c22 at hR
 try dsimp only at hR
 refine GX.callx (r' := .ptr 1 0) (heap' := [(0, .box (TPrefix.c p1)), (3, .row 1 3 (c22.free.map c_i64)), (2, .row 6 69 (c22.l.map TNode.c)), (1, .box [.own 2 6 0 c22.l.length, .own 3 1 0 c22.free.length, .int .i64 c22.root, .int .i64 c22.n])]) (next' := 4) [] [] rfl rfl rfl rfl rfl rfl (f9_ok  _ hc22) (.inl rfl) rfl rfl rfl ?_
 refine GX.m rfl ?_
 refine GX.done ?_
 refine WK.seq ?_
 refine WK.sr mixed ?_
 refine GX.m rfl ?_
 refine GX.q (.bool false) ?_
 refine GX.done ?_
 refine WK.condF rfl ?_
 refine WK.skip ?_
 refine WK.seq ?_
 refine WK.sr mixed ?_
 refine GX.m rfl ?_
 refine GX.done ?_
 refine WK.len (t := 0) rfl (by simp) (fun hlen_79 => ?_)
 rw [List.length_map] at hlen_79
 generalize hZ_79 : F7_crossroadslaw06_TrieOrder_l2 c22.root c22.n c22.l c22.free 0 script0 = Z_79 at hR
 refine WK.forK (fun k s => ∃ (i8 : Nat) (t_2_7 : Int) (t_3_7 : Int) (row2 : List TNode) (row3 : List Int), i8 ≤ script0.length ∧ k = script0.length - i8 ∧ F7_crossroadslaw06_TrieOrder_l2 t_2_7 t_3_7 row2 row3 i8 (script0.drop i8) = Z_79 ∧ s = ⟨[(0, .ro 5 (script0.map TAct.c)), (2, .int .i64 v2), (4, .ptr 0 0), (7, .ptr 1 0), (8, .int .i64 (i8 : Int))], [(0, .box (TPrefix.c p1)), (1, .box [.own 2 6 0 row2.length, .own 3 1 0 row3.length, .int .i64 t_2_7, .int .i64 t_3_7]), (2, .row 6 69 (row2.map TNode.c)), (3, .row 1 3 (row3.map c_i64))], 4⟩) script0.length ⟨⟨[(0, .ro 5 (script0.map TAct.c)), (2, .int .i64 v2), (4, .ptr 0 0), (7, .ptr 1 0), (8, .int .i64 (0 : Int))], [(0, .box (TPrefix.c p1)), (1, .box [.own 2 6 0 c22.l.length, .own 3 1 0 c22.free.length, .int .i64 c22.root, .int .i64 c22.n]), (2, .row 6 69 (c22.l.map TNode.c)), (3, .row 1 3 (c22.free.map c_i64))], 4⟩, Conv.keep [0, 1, 2, 3] [] [0, 2, 4, 7, 8] rfl rfl (viewE_cons rfl rfl (viewE_cons rfl rfl (viewE_cons rfl rfl (viewE_cons rfl rfl (viewE_cons rfl rfl viewE_nil))))) rfl rfl, 0, c22.root, c22.n, c22.l, c22.free, (by omega), rfl, hZ_79, rfl⟩ ?_
 rintro _ _ ⟨i8, t_2_7, t_3_7, row2, row3, hi_79, rfl, hL_79, rfl⟩ again_79 out_79 Q_79 hagain_79 hout_79 hQ_79
 refine WK.seq ?_
 refine WK.sr mixed ?_
 iterate 2 refine GX.m rfl ?_
 refine GX.pure (v' := .int .i64 (script0.length : Int)) rfl rfl rfl rfl (len_map _ _) ?_
 refine GX.q (.bool (decide ((i8 : Int) < (script0.length : Int)))) ?_
 refine GX.m rfl ?_
 rcases bool_two (decide ((i8 : Int) < (script0.length : Int))) with hb80 | hb80
 ·rw [hb80]
  rw [drop_end hb80, F7_crossroadslaw06_TrieOrder_l2] at hL_79
  iterate 2 refine GX.skip rfl rfl ?_
  refine GX.q (.bool false) ?_
  refine GX.done ?_
  refine WK.condF rfl ?_
  refine WK.exit ?_
  refine QF.exit (hout_79 _ ?_)
  subst hL_79
  try dsimp only [cond_true, cond_false] at hR
  refine WK.sr mixed ?_
  refine GX.m rfl ?_
  generalize hc48 : F14_trie_Trie_Walk (⟨row2, row3, t_2_7, t_3_7⟩ : TTrie) = c48 at hR
  rcases c48 with _ | c48
  ·try dsimp only at hR
   cases hR
  try dsimp only at hR
  try dsimp only at hR
  refine GX.callx (r' := .ro 3 (c48.map TEntry.c)) (heap' := [(0, .box (TPrefix.c p1)), (1, .box [.own 2 6 0 row2.length, .own 3 1 0 row3.length, .int .i64 t_2_7, .int .i64 t_3_7]), (2, .row 6 69 (row2.map TNode.c)), (3, .row 1 3 (row3.map c_i64))]) (next' := 4) [1, 2, 3] [] rfl rfl rfl rfl rfl rfl (f14_ok (⟨row2, row3, t_2_7, t_3_7⟩ : TTrie) _ hc48) (.inl rfl) rfl rfl rfl ?_
  refine GX.m rfl ?_
  refine GX.done ?_
  refine WK.sr mixed ?_
  refine GX.m rfl ?_
  refine GX.q (.agg (TPrefix.c p1)) ?_
  generalize hc52 : F25_trie_Trie_Get (⟨row2, row3, t_2_7, t_3_7⟩ : TTrie) p1 = c52 at hR
  rcases c52 with _ | c52
  ·try dsimp only at hR
   cases hR
  try dsimp only at hR
  obtain ⟨c52a, c52b⟩ := c52; try dsimp only at hR
  refine GX.callx (r' := .tup [.int .i64 c52a, .bool c52b]) (heap' := [(0, .box (TPrefix.c p1)), (1, .box [.own 2 6 0 row2.length, .own 3 1 0 row3.length, .int .i64 t_2_7, .int .i64 t_3_7]), (2, .row 6 69 (row2.map TNode.c)), (3, .row 1 3 (row3.map c_i64))]) (next' := 4) [1, 2, 3] [] rfl rfl rfl rfl rfl rfl (f25_ok (⟨row2, row3, t_2_7, t_3_7⟩ : TTrie) p1 _ hc52) (.inl rfl) rfl rfl rfl ?_
  refine GX.m rfl ?_
  refine GX.q (.int .i64 c52a) ?_
  refine GX.q (.bool c52b) ?_
  iterate 2 refine GX.m rfl ?_
  refine GX.done ?_
  refine WK.sr mixed ?_
  refine GX.m rfl ?_
  refine GX.q (.agg (TPrefix.c p1)) ?_
  refine GX.m rfl ?_
  generalize hc58 : F10_trie_Trie_Set (⟨row2, row3, t_2_7, t_3_7⟩ : TTrie) p1 v2 = c58 at hR
  rcases c58 with _ | c58
  ·try dsimp only at hR
   cases hR
  try dsimp only at hR
  obtain ⟨c58a, c58b⟩ := c58; try dsimp only at hR
  refine GX.callx (r' := .int .i64 c58a) (heap' := [(0, .box (TPrefix.c p1)), (1, .box [.own 4 6 0 c58b.l.length, .own 5 1 0 c58b.free.length, .int .i64 c58b.root, .int .i64 c58b.n]), (5, .row 1 3 (c58b.free.map c_i64)), (4, .row 6 69 (c58b.l.map TNode.c))]) (next' := 6) [1, 2, 3] [] rfl rfl rfl rfl rfl rfl (f10_ok (⟨row2, row3, t_2_7, t_3_7⟩ : TTrie) p1 v2 _ hc58) (.inl rfl) rfl rfl rfl ?_
  refine GX.m rfl ?_
  refine GX.done ?_
  refine WK.sr mixed ?_
  refine GX.m rfl ?_
  refine GX.q (.agg (TPrefix.c p1)) ?_
  generalize hc62 : F25_trie_Trie_Get c58b p1 = c62 at hR
  rcases c62 with _ | c62
  ·try dsimp only at hR
   cases hR
  try dsimp only at hR
  obtain ⟨c62a, c62b⟩ := c62; try dsimp only at hR
  refine GX.callx (r' := .tup [.int .i64 c62a, .bool c62b]) (heap' := [(0, .box (TPrefix.c p1)), (1, .box [.own 4 6 0 c58b.l.length, .own 5 1 0 c58b.free.length, .int .i64 c58b.root, .int .i64 c58b.n]), (5, .row 1 3 (c58b.free.map c_i64)), (4, .row 6 69 (c58b.l.map TNode.c))]) (next' := 6) [1, 4, 5] [] rfl rfl rfl rfl rfl rfl (f25_ok c58b p1 _ hc62) (.inl rfl) rfl rfl rfl ?_
  refine GX.m rfl ?_
  refine GX.q (.int .i64 c62a) ?_
  refine GX.q (.bool c62b) ?_
  iterate 2 refine GX.m rfl ?_
  refine GX.done ?_
  refine WK.sr mixed ?_
  refine GX.m rfl ?_
  generalize hc66 : F14_trie_Trie_Walk c58b = c66 at hR
  rcases c66 with _ | c66
  ·try dsimp only at hR
   cases hR
  try dsimp only at hR
  try dsimp only at hR
  refine GX.callx (r' := .ro 3 (c66.map TEntry.c)) (heap' := [(0, .box (TPrefix.c p1)), (1, .box [.own 4 6 0 c58b.l.length, .own 5 1 0 c58b.free.length, .int .i64 c58b.root, .int .i64 c58b.n]), (5, .row 1 3 (c58b.free.map c_i64)), (4, .row 6 69 (c58b.l.map TNode.c))]) (next' := 6) [1, 4, 5] [] rfl rfl rfl rfl rfl rfl (f14_ok c58b _ hc66) (.inl rfl) rfl rfl rfl ?_
  refine GX.m rfl ?_
  refine GX.done ?_
  refine WK.seq ?_
  refine WK.sr mixed ?_
  iterate 2 refine GX.m rfl ?_
  refine GX.q (.bool (decide (c58a = 0))) ?_
  refine GX.q (.bool (!(c62b == (decide (c58a = 0))))) ?_
  refine GX.m rfl ?_
  rcases bool_two (c62b == (decide (c58a = 0))) with hb86 | hb86
  ·rw [hb86]; first | replace hR := cond_f hb86 hR | (try simp only [hb86, bb] at hR)
   iterate 6 refine GX.skip rfl rfl ?_
   refine GX.q (.bool true) ?_
   refine GX.m rfl ?_
   iterate 5 refine GX.skip rfl rfl ?_
   refine GX.q (.bool true) ?_
   refine GX.done ?_
   refine WK.condT rfl ?_
   refine WK.sr mixed ?_
   refine GX.m rfl ?_
   refine GX.done ?_
   refine WK.ret ?_
   obtain rfl := Option.some.inj hR
   exact RetQ.fr [] (.inr rfl) rfl rfl rfl rfl
  ·rw [hb86]; first | replace hR := cond_t hb86 hR | (try simp only [hb86, bb] at hR)
   iterate 2 refine GX.m rfl ?_
   rcases bool_two (c62b) with hb87 | hb87
   ·rw [hb87]; first | replace hR := cond_f hb87 hR | (try simp only [hb87, bb] at hR)
    iterate 3 refine GX.skip rfl rfl ?_
    iterate 2 refine GX.q (.bool false) ?_
    iterate 2 refine GX.m rfl ?_
    refine GX.q (.bool (decide (c58a = 0))) ?_
    refine GX.q (.agg (TPrefix.c p1)) ?_
    generalize hc83 : F28_crossroadsref03_May p1 = c83 at hR
    try dsimp only at hR
    refine GX.callp (r := .bool c83) rfl rfl rfl (f28_ok p1 _ hc83) rfl rfl ?_
    iterate 2 refine GX.q (.bool (!((decide (c58a = 0)) == c83))) ?_
    refine GX.done ?_
    rcases bool_two ((decide (c58a = 0)) == c83) with hb88 | hb88
    ·rw [hb88]; try simp only [hb88, bb] at hR
     refine WK.condT rfl ?_
     refine WK.sr mixed ?_
     refine GX.m rfl ?_
     refine GX.done ?_
     refine WK.ret ?_
     obtain rfl := Option.some.inj hR
     exact RetQ.fr [] (.inr rfl) rfl rfl rfl rfl
    ·rw [hb88]; try simp only [hb88, bb] at hR
     refine WK.condF rfl ?_
     refine WK.skip ?_
     refine WK.seq ?_
     refine WK.sr mixed ?_
     refine GX.m rfl ?_
     refine GX.done ?_
     refine WK.len (t := 15) rfl (by simp) (fun hln15_89 => ?_)
     rw [List.length_map] at hln15_89
     generalize hZ_89 : F7_crossroadslaw06_TrieOrder_l1 c66 (fuelUp 1 (c66.length : Int)) 1 = Z_89 at hR
     refine WK.forK (fun k s => ∃ (i16 : Int), fuelUp i16 (c66.length : Int) ≤ k ∧ 1 ≤ i16 ∧ F7_crossroadslaw06_TrieOrder_l1 c66 k i16 = Z_89 ∧ s = ⟨[(4, .ptr 0 0), (7, .ptr 1 0), (9, .ro 3 (c48.map TEntry.c)), (11, .bool c52b), (14, .bool false), (15, .ro 3 (c66.map TEntry.c)), (16, .int .i64 i16)], [(0, .box (TPrefix.c p1)), (1, .box [.own 2 6 0 c58b.l.length, .own 3 1 0 c58b.free.length, .int .i64 c58b.root, .int .i64 c58b.n]), (2, .row 6 69 (c58b.l.map TNode.c)), (3, .row 1 3 (c58b.free.map c_i64))], 4⟩) (fuelUp 1 (c66.length : Int)) ⟨⟨[(4, .ptr 0 0), (7, .ptr 1 0), (9, .ro 3 (c48.map TEntry.c)), (11, .bool c52b), (14, .bool false), (15, .ro 3 (c66.map TEntry.c)), (16, .int .i64 1)], [(0, .box (TPrefix.c p1)), (1, .box [.own 2 6 0 c58b.l.length, .own 3 1 0 c58b.free.length, .int .i64 c58b.root, .int .i64 c58b.n]), (2, .row 6 69 (c58b.l.map TNode.c)), (3, .row 1 3 (c58b.free.map c_i64))], 4⟩, Conv.keep [0, 1, 4, 5] [] [4, 7, 9, 11, 14, 15, 16] rfl rfl (viewE_cons rfl rfl (viewE_cons rfl rfl (viewE_cons rfl rfl (viewE_cons rfl rfl (viewE_cons rfl rfl (viewE_cons rfl rfl (viewE_cons rfl rfl viewE_nil))))))) rfl rfl, 1, Nat.le_refl _, (by omega), hZ_89, rfl⟩ ?_
     rintro k89 _ ⟨i16, hfu89, hinv89_c0, hL_89, rfl⟩ again_89 out_89 Q_89 hagain_89 hout_89 hQ_89
     refine WK.seq ?_
     refine WK.sr mixed ?_
     iterate 2 refine GX.m rfl ?_
     refine GX.pure (v' := .int .i64 (c66.length : Int)) rfl rfl rfl rfl (len_map _ _) ?_
     refine GX.q (.bool (decide (i16 < (c66.length : Int)))) ?_
     refine GX.done ?_
     rcases bool_two (decide (i16 < (c66.length : Int))) with hb90 | hb90
     ·rw [hb90]
      unfold F7_crossroadslaw06_TrieOrder_l1 at hL_89; rw [hb90, cond_false] at hL_89
      refine WK.condF rfl ?_
      refine WK.exit ?_
      refine QF.exit (hout_89 _ ?_)
      subst hL_89
      try dsimp only [cond_true, cond_false] at hR
      refine WK.sr mixed ?_
      refine GX.m rfl ?_
      refine GX.q (.agg (TPrefix.c p1)) ?_
      generalize hc108 : F17_crossroadsref06_Drop c48 p1 = c108 at hR
      rcases c108 with _ | c108
      ·try dsimp only at hR
       cases hR
      try dsimp only at hR
      obtain ⟨c108a, c108b⟩ := c108; try dsimp only at hR
      refine GX.callp (r := .tup [.ro 3 (c108a.map TEntry.c), .bool c108b]) rfl rfl rfl (f17_ok c48 p1 _ hc108) rfl rfl ?_
      refine GX.m rfl ?_
      refine GX.q (.ro 3 (c108a.map TEntry.c)) ?_
      refine GX.q (.bool c108b) ?_
      iterate 2 refine GX.m rfl ?_
      refine GX.done ?_
      refine WK.sr mixed ?_
      refine GX.m rfl ?_
      refine GX.q (.agg (TPrefix.c p1)) ?_
      generalize hc114 : F17_crossroadsref06_Drop c66 p1 = c114 at hR
      rcases c114 with _ | c114
      ·try dsimp only at hR
       cases hR
      try dsimp only at hR
      obtain ⟨c114a, c114b⟩ := c114; try dsimp only at hR
      refine GX.callp (r := .tup [.ro 3 (c114a.map TEntry.c), .bool c114b]) rfl rfl rfl (f17_ok c66 p1 _ hc114) rfl rfl ?_
      refine GX.m rfl ?_
      refine GX.q (.ro 3 (c114a.map TEntry.c)) ?_
      refine GX.q (.bool c114b) ?_
      iterate 2 refine GX.m rfl ?_
      refine GX.done ?_
      refine WK.sr mixed ?_
      refine GX.m rfl ?_
      refine GX.q (.agg (TPrefix.c p1)) ?_
      generalize hc119 : F16_trie_Trie_Drop c58b p1 = c119 at hR
      rcases c119 with _ | c119
      ·try dsimp only at hR
       cases hR
      try dsimp only at hR
      obtain ⟨c119a, c119b⟩ := c119; try dsimp only at hR
      refine GX.callx (r' := .bool c119a) (heap' := [(0, .box (TPrefix.c p1)), (1, .box [.own 4 6 0 c119b.l.length, .own 5 1 0 c119b.free.length, .int .i64 c119b.root, .int .i64 c119b.n]), (5, .row 1 3 (c119b.free.map c_i64)), (4, .row 6 69 (c119b.l.map TNode.c))]) (next' := 6) [1, 2, 3] [] rfl rfl rfl rfl rfl rfl (f16_ok c58b p1 _ hc119) (.inl rfl) rfl rfl rfl ?_
      refine GX.m rfl ?_
      refine GX.done ?_
      refine WK.sr mixed ?_
      generalize hc120 : F12_crossroadslaw06_alive = c120 at hR
      try dsimp only at hR
      refine GX.callp (r := .bool c120) rfl rfl rfl (f12_ok  _ hc120) rfl rfl ?_
      refine GX.m rfl ?_
      rcases bool_two (c120) with hb92 | hb92
      ·rw [hb92]; first | replace hR := cond_f hb92 hR | (try simp only [hb92, bb] at hR)
       iterate 3 refine GX.skip rfl rfl ?_
       refine GX.q (.bool false) ?_
       refine GX.m rfl ?_
       iterate 4 refine GX.skip rfl rfl ?_
       refine GX.q (.bool false) ?_
       refine GX.m rfl ?_
       iterate 3 refine GX.skip rfl rfl ?_
       refine GX.q (.bool false) ?_
       refine GX.m rfl ?_
       iterate 5 refine GX.skip rfl rfl ?_
       refine GX.q (.bool false) ?_
       refine GX.m rfl ?_
       refine GX.done ?_
       refine WK.ret ?_
       obtain rfl := Option.some.inj hR
       exact RetQ.fr [] (.inr rfl) rfl rfl rfl rfl
      ·rw [hb92]; first | replace hR := cond_t hb92 hR | (try simp only [hb92, bb] at hR)
       iterate 2 refine GX.m rfl ?_
       generalize hc124 : F13_crossroadsref06_Same c108a c114a = c124 at hR
       try dsimp only at hR
       refine GX.callp (r := .bool c124) rfl rfl rfl (f13_ok c108a c114a _ hc124) rfl rfl ?_
       refine GX.q (.bool c124) ?_
       refine GX.m rfl ?_
       rcases bool_two (c124) with hb93 | hb93
       ·rw [hb93]; first | replace hR := cond_f hb93 hR | (try simp only [hb93, bb] at hR)
        iterate 4 refine GX.skip rfl rfl ?_
        refine GX.q (.bool false) ?_
        refine GX.m rfl ?_
        iterate 3 refine GX.skip rfl rfl ?_
        refine GX.q (.bool false) ?_
        refine GX.m rfl ?_
        iterate 5 refine GX.skip rfl rfl ?_
        refine GX.q (.bool false) ?_
        refine GX.m rfl ?_
        refine GX.done ?_
        refine WK.ret ?_
        obtain rfl := Option.some.inj hR
        exact RetQ.fr [] (.inr rfl) rfl rfl rfl rfl
       ·rw [hb93]; first | replace hR := cond_t hb93 hR | (try simp only [hb93, bb] at hR)
        refine GX.m rfl ?_
        generalize hc128 : F14_trie_Trie_Walk c119b = c128 at hR
        rcases c128 with _ | c128
        ·try dsimp only at hR
         cases hR
        try dsimp only at hR
        try dsimp only at hR
        refine GX.callx (r' := .ro 3 (c128.map TEntry.c)) (heap' := [(0, .box (TPrefix.c p1)), (1, .box [.own 4 6 0 c119b.l.length, .own 5 1 0 c119b.free.length, .int .i64 c119b.root, .int .i64 c119b.n]), (5, .row 1 3 (c119b.free.map c_i64)), (4, .row 6 69 (c119b.l.map TNode.c))]) (next' := 6) [1, 4, 5] [] rfl rfl rfl rfl rfl rfl (f14_ok c119b _ hc128) (.inl rfl) rfl rfl rfl ?_
        refine GX.m rfl ?_
        generalize hc130 : F13_crossroadsref06_Same c128 c108a = c130 at hR
        try dsimp only at hR
        refine GX.callp (r := .bool c130) rfl rfl rfl (f13_ok c128 c108a _ hc130) rfl rfl ?_
        refine GX.q (.bool c130) ?_
        refine GX.m rfl ?_
        rcases bool_two (c130) with hb95 | hb95
        ·rw [hb95]; first | replace hR := cond_f hb95 hR | (try simp only [hb95, bb] at hR)
         iterate 3 refine GX.skip rfl rfl ?_
         refine GX.q (.bool false) ?_
         refine GX.m rfl ?_
         iterate 5 refine GX.skip rfl rfl ?_
         refine GX.q (.bool false) ?_
         refine GX.m rfl ?_
         refine GX.done ?_
         refine WK.ret ?_
         obtain rfl := Option.some.inj hR
         exact RetQ.fr [] (.inr rfl) rfl rfl rfl rfl
        ·rw [hb95]; first | replace hR := cond_t hb95 hR | (try simp only [hb95, bb] at hR)
         iterate 2 refine GX.m rfl ?_
         iterate 2 refine GX.q (.bool (c119a == false)) ?_
         refine GX.m rfl ?_
         rcases bool_two ((c119a == false)) with hb96 | hb96
         ·rw [hb96]; try simp only [hb96, bb] at hR
          iterate 5 refine GX.skip rfl rfl ?_
          refine GX.q (.bool false) ?_
          refine GX.m rfl ?_
          refine GX.done ?_
          refine WK.ret ?_
          obtain rfl := Option.some.inj hR
          exact RetQ.fr [] (.inr rfl) rfl rfl rfl rfl
         ·rw [hb96]; try simp only [hb96, bb] at hR
          refine GX.m rfl ?_
          refine GX.q (.bool (!c52b)) ?_
          refine GX.m rfl ?_
          rcases bool_two (c52b) with hb97 | hb97
          ·rw [hb97]; first | replace hR := cond_f hb97 hR | (try simp only [hb97, bb] at hR)
           refine GX.skip rfl rfl ?_
           iterate 2 refine GX.q (.bool true) ?_
           refine GX.m rfl ?_
           refine GX.done ?_
           refine WK.ret ?_
           obtain rfl := Option.some.inj hR
           exact RetQ.fr [] (.inr rfl) rfl rfl rfl rfl
          ·rw [hb97]; first | replace hR := cond_t hb97 hR | (try simp only [hb97, bb] at hR)
           refine GX.m rfl ?_
           iterate 2 refine GX.q (.bool false) ?_
           refine GX.m rfl ?_
           refine GX.done ?_
           refine WK.ret ?_
           obtain rfl := Option.some.inj hR
           exact RetQ.fr [] (.inr rfl) rfl rfl rfl rfl
     ·rw [hb90]
      obtain ⟨f89, rfl⟩ := fuel_pos hb90 hfu89
      unfold F7_crossroadslaw06_TrieOrder_l1 at hL_89; rw [hb90, cond_true] at hL_89; dsimp only at hL_89
      refine WK.condT rfl ?_
      refine WK.skip ?_
      refine WK.seq ?_
      refine WK.blockK (fun _ hK98 => ?_)
      refine WK.seq ?_
      refine WK.drawn mixed ?_
      iterate 2 refine RD.m rfl ?_
      refine RD.q (.int .i64 (IntKind.i64.wrap (i16 - 1))) ?_
      generalize hx998 : getI c66 (IntKind.i64.wrap (i16 - 1)) = x998 at hL_89
      rcases x998 with _ | x998
      ·try dsimp only at hL_89
       subst hL_89
       try dsimp only at hR
       cases hR
      try dsimp only at hL_89
      obtain ⟨hx9980, hx998j, hx998l, hx998⟩ := getI_some hx998
      refine RD.idxT (c := TEntry.c) (x := x998) rfl rfl rfl hx9980 hx998 ?_
      refine RD.q (.rptr (TEntry.c x998)) ?_
      refine RD.q (.agg [.int .u32 x998.P.A, .int .i64 x998.P.N]) ?_
      iterate 2 refine RD.m rfl ?_
      generalize hx999 : getI c66 i16 = x999 at hL_89
      rcases x999 with _ | x999
      ·try dsimp only at hL_89
       subst hL_89
       try dsimp only at hR
       cases hR
      try dsimp only at hL_89
      obtain ⟨hx9990, hx999j, hx999l, hx999⟩ := getI_some hx999
      refine RD.idxT (c := TEntry.c) (x := x999) rfl rfl rfl hx9990 hx999 ?_
      refine RD.q (.rptr (TEntry.c x999)) ?_
      refine RD.q (.agg [.int .u32 x999.P.A, .int .i64 x999.P.N]) ?_
      generalize hc103 : F29_crossroadsref03_Less x998.P x999.P = c103 at hL_89
      try dsimp only at hL_89
      refine RD.callp (r := .bool c103) rfl rfl rfl (f29_ok x998.P x999.P _ hc103) rfl rfl ?_
      refine RD.q (.bool (!c103)) ?_
      refine RD.done rfl ?_
      rcases bool_two (c103) with hb101 | hb101
      ·rw [hb101]; try simp only [hb101, bb] at hL_89
       refine WK.condT rfl ?_
       refine WK.sr mixed ?_
       refine GX.m rfl ?_
       refine GX.done ?_
       refine WK.ret ?_
       refine QF.ret ?_
       refine QF.ret (hQ_89 _ _ ?_)
       subst hL_89
       try dsimp only at hR
       obtain rfl := Option.some.inj hR
       exact RetQ.fr [] (.inr rfl) rfl rfl rfl rfl
      ·rw [hb101]; try simp only [hb101, bb] at hL_89
       refine WK.condF rfl ?_
       refine WK.skip ?_
       refine WK.nil (QF.normal (hK98 _ ?_))
       refine WK.regx mixed ?_
       refine GX.m rfl ?_
       refine GX.q (.int .i64 (IntKind.i64.wrap (i16 + 1))) ?_
       refine GX.m rfl ?_
       refine GX.done ?_
       refine WK.nil (QF.normal ?_)
       exact hagain_89 _ f89 ⟨[(4, .ptr 0 0), (7, .ptr 1 0), (9, .ro 3 (c48.map TEntry.c)), (11, .bool c52b), (14, .bool false), (15, .ro 3 (c66.map TEntry.c)), (16, .int .i64 (IntKind.i64.wrap (i16 + 1)))], [(0, .box (TPrefix.c p1)), (1, .box [.own 2 6 0 c58b.l.length, .own 3 1 0 c58b.free.length, .int .i64 c58b.root, .int .i64 c58b.n]), (2, .row 6 69 (c58b.l.map TNode.c)), (3, .row 1 3 (c58b.free.map c_i64))], 4⟩ (Nat.lt_succ_self _) (Conv.keep [0, 1, 2, 3] [] [4, 7, 9, 11, 14, 15, 16] rfl rfl (viewE_cons rfl rfl (viewE_cons rfl rfl (viewE_cons rfl rfl (viewE_cons rfl rfl (viewE_cons rfl rfl (viewE_cons rfl rfl (viewE_cons rfl rfl viewE_nil))))))) rfl rfl) ⟨(IntKind.i64.wrap (i16 + 1)), fuel_up hb90 (by omega) hfu89, (by ((try simp only [List.length_append, List.length_cons, List.length_nil, decide_eq_true_eq, decide_eq_false_iff_not] at *) <;> first | omega | (rw [wrap64_of (by omega) (by omega)]; omega))), hL_89, rfl⟩
   ·rw [hb87]; first | replace hR := cond_t hb87 hR | (try simp only [hb87, bb] at hR)
    iterate 2 refine GX.m rfl ?_
    iterate 3 refine GX.q (.bool (!decide (c62a = v2))) ?_
    refine GX.m rfl ?_
    rcases bool_two (decide (c62a = v2)) with hb102 | hb102
    ·rw [hb102]; first | replace hR := cond_f hb102 hR | (try simp only [hb102, bb] at hR)
     iterate 5 refine GX.skip rfl rfl ?_
     refine GX.q (.bool true) ?_
     refine GX.done ?_
     refine WK.condT rfl ?_
     refine WK.sr mixed ?_
     refine GX.m rfl ?_
     refine GX.done ?_
     refine WK.ret ?_
     obtain rfl := Option.some.inj hR
     exact RetQ.fr [] (.inr rfl) rfl rfl rfl rfl
    ·rw [hb102]; first | replace hR := cond_t hb102 hR | (try simp only [hb102, bb] at hR)
     refine GX.m rfl ?_
     refine GX.q (.bool (decide (c58a = 0))) ?_
     refine GX.q (.agg (TPrefix.c p1)) ?_
     generalize hc83 : F28_crossroadsref03_May p1 = c83 at hR
     try dsimp only at hR
     refine GX.callp (r := .bool c83) rfl rfl rfl (f28_ok p1 _ hc83) rfl rfl ?_
     iterate 2 refine GX.q (.bool (!((decide (c58a = 0)) == c83))) ?_
     refine GX.done ?_
     rcases bool_two ((decide (c58a = 0)) == c83) with hb103 | hb103
     ·rw [hb103]; try simp only [hb103, bb] at hR
      refine WK.condT rfl ?_
      refine WK.sr mixed ?_
      refine GX.m rfl ?_
      refine GX.done ?_
      refine WK.ret ?_
      obtain rfl := Option.some.inj hR
      exact RetQ.fr [] (.inr rfl) rfl rfl rfl rfl
     ·rw [hb103]; try simp only [hb103, bb] at hR
      refine WK.condF rfl ?_
      refine WK.skip ?_
      refine WK.seq ?_
      refine WK.sr mixed ?_
      refine GX.m rfl ?_
      refine GX.done ?_
      refine WK.len (t := 15) rfl (by simp) (fun hln15_104 => ?_)
      rw [List.length_map] at hln15_104
      generalize hZ_104 : F7_crossroadslaw06_TrieOrder_l1 c66 (fuelUp 1 (c66.length : Int)) 1 = Z_104 at hR
      refine WK.forK (fun k s => ∃ (i16 : Int), fuelUp i16 (c66.length : Int) ≤ k ∧ 1 ≤ i16 ∧ F7_crossroadslaw06_TrieOrder_l1 c66 k i16 = Z_104 ∧ s = ⟨[(4, .ptr 0 0), (7, .ptr 1 0), (9, .ro 3 (c48.map TEntry.c)), (11, .bool c52b), (14, .bool true), (15, .ro 3 (c66.map TEntry.c)), (16, .int .i64 i16)], [(0, .box (TPrefix.c p1)), (1, .box [.own 2 6 0 c58b.l.length, .own 3 1 0 c58b.free.length, .int .i64 c58b.root, .int .i64 c58b.n]), (2, .row 6 69 (c58b.l.map TNode.c)), (3, .row 1 3 (c58b.free.map c_i64))], 4⟩) (fuelUp 1 (c66.length : Int)) ⟨⟨[(4, .ptr 0 0), (7, .ptr 1 0), (9, .ro 3 (c48.map TEntry.c)), (11, .bool c52b), (14, .bool true), (15, .ro 3 (c66.map TEntry.c)), (16, .int .i64 1)], [(0, .box (TPrefix.c p1)), (1, .box [.own 2 6 0 c58b.l.length, .own 3 1 0 c58b.free.length, .int .i64 c58b.root, .int .i64 c58b.n]), (2, .row 6 69 (c58b.l.map TNode.c)), (3, .row 1 3 (c58b.free.map c_i64))], 4⟩, Conv.keep [0, 1, 4, 5] [] [4, 7, 9, 11, 14, 15, 16] rfl rfl (viewE_cons rfl rfl (viewE_cons rfl rfl (viewE_cons rfl rfl (viewE_cons rfl rfl (viewE_cons rfl rfl (viewE_cons rfl rfl (viewE_cons rfl rfl viewE_nil))))))) rfl rfl, 1, Nat.le_refl _, (by omega), hZ_104, rfl⟩ ?_
      rintro k104 _ ⟨i16, hfu104, hinv104_c0, hL_104, rfl⟩ again_104 out_104 Q_104 hagain_104 hout_104 hQ_104
      refine WK.seq ?_
      refine WK.sr mixed ?_
      iterate 2 refine GX.m rfl ?_
      refine GX.pure (v' := .int .i64 (c66.length : Int)) rfl rfl rfl rfl (len_map _ _) ?_
      refine GX.q (.bool (decide (i16 < (c66.length : Int)))) ?_
      refine GX.done ?_
      rcases bool_two (decide (i16 < (c66.length : Int))) with hb105 | hb105
      ·rw [hb105]
       unfold F7_crossroadslaw06_TrieOrder_l1 at hL_104; rw [hb105, cond_false] at hL_104
       refine WK.condF rfl ?_
       refine WK.exit ?_
       refine QF.exit (hout_104 _ ?_)
       subst hL_104
       try dsimp only [cond_true, cond_false] at hR
       refine WK.sr mixed ?_
       refine GX.m rfl ?_
       refine GX.q (.agg (TPrefix.c p1)) ?_
       generalize hc108 : F17_crossroadsref06_Drop c48 p1 = c108 at hR
       rcases c108 with _ | c108
       ·try dsimp only at hR
        cases hR
       try dsimp only at hR
       obtain ⟨c108a, c108b⟩ := c108; try dsimp only at hR
       refine GX.callp (r := .tup [.ro 3 (c108a.map TEntry.c), .bool c108b]) rfl rfl rfl (f17_ok c48 p1 _ hc108) rfl rfl ?_
       refine GX.m rfl ?_
       refine GX.q (.ro 3 (c108a.map TEntry.c)) ?_
       refine GX.q (.bool c108b) ?_
       iterate 2 refine GX.m rfl ?_
       refine GX.done ?_
       refine WK.sr mixed ?_
       refine GX.m rfl ?_
       refine GX.q (.agg (TPrefix.c p1)) ?_
       generalize hc114 : F17_crossroadsref06_Drop c66 p1 = c114 at hR
       rcases c114 with _ | c114
       ·try dsimp only at hR
        cases hR
       try dsimp only at hR
       obtain ⟨c114a, c114b⟩ := c114; try dsimp only at hR
       refine GX.callp (r := .tup [.ro 3 (c114a.map TEntry.c), .bool c114b]) rfl rfl rfl (f17_ok c66 p1 _ hc114) rfl rfl ?_
       refine GX.m rfl ?_
       refine GX.q (.ro 3 (c114a.map TEntry.c)) ?_
       refine GX.q (.bool c114b) ?_
       iterate 2 refine GX.m rfl ?_
       refine GX.done ?_
       refine WK.sr mixed ?_
       refine GX.m rfl ?_
       refine GX.q (.agg (TPrefix.c p1)) ?_
       generalize hc119 : F16_trie_Trie_Drop c58b p1 = c119 at hR
       rcases c119 with _ | c119
       ·try dsimp only at hR
        cases hR
       try dsimp only at hR
       obtain ⟨c119a, c119b⟩ := c119; try dsimp only at hR
       refine GX.callx (r' := .bool c119a) (heap' := [(0, .box (TPrefix.c p1)), (1, .box [.own 4 6 0 c119b.l.length, .own 5 1 0 c119b.free.length, .int .i64 c119b.root, .int .i64 c119b.n]), (5, .row 1 3 (c119b.free.map c_i64)), (4, .row 6 69 (c119b.l.map TNode.c))]) (next' := 6) [1, 2, 3] [] rfl rfl rfl rfl rfl rfl (f16_ok c58b p1 _ hc119) (.inl rfl) rfl rfl rfl ?_
       refine GX.m rfl ?_
       refine GX.done ?_
       refine WK.sr mixed ?_
       generalize hc120 : F12_crossroadslaw06_alive = c120 at hR
       try dsimp only at hR
       refine GX.callp (r := .bool c120) rfl rfl rfl (f12_ok  _ hc120) rfl rfl ?_
       refine GX.m rfl ?_
       rcases bool_two (c120) with hb107 | hb107
       ·rw [hb107]; first | replace hR := cond_f hb107 hR | (try simp only [hb107, bb] at hR)
        iterate 3 refine GX.skip rfl rfl ?_
        refine GX.q (.bool false) ?_
        refine GX.m rfl ?_
        iterate 4 refine GX.skip rfl rfl ?_
        refine GX.q (.bool false) ?_
        refine GX.m rfl ?_
        iterate 3 refine GX.skip rfl rfl ?_
        refine GX.q (.bool false) ?_
        refine GX.m rfl ?_
        iterate 5 refine GX.skip rfl rfl ?_
        refine GX.q (.bool false) ?_
        refine GX.m rfl ?_
        refine GX.done ?_
        refine WK.ret ?_
        obtain rfl := Option.some.inj hR
        exact RetQ.fr [] (.inr rfl) rfl rfl rfl rfl
       ·rw [hb107]; first | replace hR := cond_t hb107 hR | (try simp only [hb107, bb] at hR)
        iterate 2 refine GX.m rfl ?_
        generalize hc124 : F13_crossroadsref06_Same c108a c114a = c124 at hR
        try dsimp only at hR
        refine GX.callp (r := .bool c124) rfl rfl rfl (f13_ok c108a c114a _ hc124) rfl rfl ?_
        refine GX.q (.bool c124) ?_
        refine GX.m rfl ?_
        rcases bool_two (c124) with hb108 | hb108
        ·rw [hb108]; first | replace hR := cond_f hb108 hR | (try simp only [hb108, bb] at hR)
         iterate 4 refine GX.skip rfl rfl ?_
         refine GX.q (.bool false) ?_
         refine GX.m rfl ?_
         iterate 3 refine GX.skip rfl rfl ?_
         refine GX.q (.bool false) ?_
         refine GX.m rfl ?_
         iterate 5 refine GX.skip rfl rfl ?_
         refine GX.q (.bool false) ?_
         refine GX.m rfl ?_
         refine GX.done ?_
         refine WK.ret ?_
         obtain rfl := Option.some.inj hR
         exact RetQ.fr [] (.inr rfl) rfl rfl rfl rfl
        ·rw [hb108]; first | replace hR := cond_t hb108 hR | (try simp only [hb108, bb] at hR)
         refine GX.m rfl ?_
         generalize hc128 : F14_trie_Trie_Walk c119b = c128 at hR
         rcases c128 with _ | c128
         ·try dsimp only at hR
          cases hR
         try dsimp only at hR
         try dsimp only at hR
         refine GX.callx (r' := .ro 3 (c128.map TEntry.c)) (heap' := [(0, .box (TPrefix.c p1)), (1, .box [.own 4 6 0 c119b.l.length, .own 5 1 0 c119b.free.length, .int .i64 c119b.root, .int .i64 c119b.n]), (5, .row 1 3 (c119b.free.map c_i64)), (4, .row 6 69 (c119b.l.map TNode.c))]) (next' := 6) [1, 4, 5] [] rfl rfl rfl rfl rfl rfl (f14_ok c119b _ hc128) (.inl rfl) rfl rfl rfl ?_
         refine GX.m rfl ?_
         generalize hc130 : F13_crossroadsref06_Same c128 c108a = c130 at hR
         try dsimp only at hR
         refine GX.callp (r := .bool c130) rfl rfl rfl (f13_ok c128 c108a _ hc130) rfl rfl ?_
         refine GX.q (.bool c130) ?_
         refine GX.m rfl ?_
         rcases bool_two (c130) with hb110 | hb110
         ·rw [hb110]; first | replace hR := cond_f hb110 hR | (try simp only [hb110, bb] at hR)
          iterate 3 refine GX.skip rfl rfl ?_
          refine GX.q (.bool false) ?_
          refine GX.m rfl ?_
          iterate 5 refine GX.skip rfl rfl ?_
          refine GX.q (.bool false) ?_
          refine GX.m rfl ?_
          refine GX.done ?_
          refine WK.ret ?_
          obtain rfl := Option.some.inj hR
          exact RetQ.fr [] (.inr rfl) rfl rfl rfl rfl
         ·rw [hb110]; first | replace hR := cond_t hb110 hR | (try simp only [hb110, bb] at hR)
          iterate 2 refine GX.m rfl ?_
          iterate 2 refine GX.q (.bool (c119a == true)) ?_
          refine GX.m rfl ?_
          rcases bool_two ((c119a == true)) with hb111 | hb111
          ·rw [hb111]; try simp only [hb111, bb] at hR
           iterate 5 refine GX.skip rfl rfl ?_
           refine GX.q (.bool false) ?_
           refine GX.m rfl ?_
           refine GX.done ?_
           refine WK.ret ?_
           obtain rfl := Option.some.inj hR
           exact RetQ.fr [] (.inr rfl) rfl rfl rfl rfl
          ·rw [hb111]; try simp only [hb111, bb] at hR
           refine GX.m rfl ?_
           refine GX.q (.bool (!c52b)) ?_
           refine GX.m rfl ?_
           rcases bool_two (c52b) with hb112 | hb112
           ·rw [hb112]; first | replace hR := cond_f hb112 hR | (try simp only [hb112, bb] at hR)
            refine GX.skip rfl rfl ?_
            iterate 2 refine GX.q (.bool true) ?_
            refine GX.m rfl ?_
            refine GX.done ?_
            refine WK.ret ?_
            obtain rfl := Option.some.inj hR
            exact RetQ.fr [] (.inr rfl) rfl rfl rfl rfl
           ·rw [hb112]; first | replace hR := cond_t hb112 hR | (try simp only [hb112, bb] at hR)
            refine GX.m rfl ?_
            iterate 2 refine GX.q (.bool true) ?_
            refine GX.m rfl ?_
            refine GX.done ?_
            refine WK.ret ?_
            obtain rfl := Option.some.inj hR
            exact RetQ.fr [] (.inr rfl) rfl rfl rfl rfl
      ·rw [hb105]
       obtain ⟨f104, rfl⟩ := fuel_pos hb105 hfu104
       unfold F7_crossroadslaw06_TrieOrder_l1 at hL_104; rw [hb105, cond_true] at hL_104; dsimp only at hL_104
       refine WK.condT rfl ?_
       refine WK.skip ?_
       refine WK.seq ?_
       refine WK.blockK (fun _ hK113 => ?_)
       refine WK.seq ?_
       refine WK.drawn mixed ?_
       iterate 2 refine RD.m rfl ?_
       refine RD.q (.int .i64 (IntKind.i64.wrap (i16 - 1))) ?_
       generalize hx1013 : getI c66 (IntKind.i64.wrap (i16 - 1)) = x1013 at hL_104
       rcases x1013 with _ | x1013
       ·try dsimp only at hL_104
        subst hL_104
        try dsimp only at hR
        cases hR
       try dsimp only at hL_104
       obtain ⟨hx10130, hx1013j, hx1013l, hx1013⟩ := getI_some hx1013
       refine RD.idxT (c := TEntry.c) (x := x1013) rfl rfl rfl hx10130 hx1013 ?_
       refine RD.q (.rptr (TEntry.c x1013)) ?_
       refine RD.q (.agg [.int .u32 x1013.P.A, .int .i64 x1013.P.N]) ?_
       iterate 2 refine RD.m rfl ?_
       generalize hx1014 : getI c66 i16 = x1014 at hL_104
       rcases x1014 with _ | x1014
       ·try dsimp only at hL_104
        subst hL_104
        try dsimp only at hR
        cases hR
       try dsimp only at hL_104
       obtain ⟨hx10140, hx1014j, hx1014l, hx1014⟩ := getI_some hx1014
       refine RD.idxT (c := TEntry.c) (x := x1014) rfl rfl rfl hx10140 hx1014 ?_
       refine RD.q (.rptr (TEntry.c x1014)) ?_
       refine RD.q (.agg [.int .u32 x1014.P.A, .int .i64 x1014.P.N]) ?_
       generalize hc103 : F29_crossroadsref03_Less x1013.P x1014.P = c103 at hL_104
       try dsimp only at hL_104
       refine RD.callp (r := .bool c103) rfl rfl rfl (f29_ok x1013.P x1014.P _ hc103) rfl rfl ?_
       refine RD.q (.bool (!c103)) ?_
       refine RD.done rfl ?_
       rcases bool_two (c103) with hb116 | hb116
       ·rw [hb116]; try simp only [hb116, bb] at hL_104
        refine WK.condT rfl ?_
        refine WK.sr mixed ?_
        refine GX.m rfl ?_
        refine GX.done ?_
        refine WK.ret ?_
        refine QF.ret ?_
        refine QF.ret (hQ_104 _ _ ?_)
        subst hL_104
        try dsimp only at hR
        obtain rfl := Option.some.inj hR
        exact RetQ.fr [] (.inr rfl) rfl rfl rfl rfl
       ·rw [hb116]; try simp only [hb116, bb] at hL_104
        refine WK.condF rfl ?_
        refine WK.skip ?_
        refine WK.nil (QF.normal (hK113 _ ?_))
        refine WK.regx mixed ?_
        refine GX.m rfl ?_
        refine GX.q (.int .i64 (IntKind.i64.wrap (i16 + 1))) ?_
        refine GX.m rfl ?_
        refine GX.done ?_
        refine WK.nil (QF.normal ?_)
        exact hagain_104 _ f104 ⟨[(4, .ptr 0 0), (7, .ptr 1 0), (9, .ro 3 (c48.map TEntry.c)), (11, .bool c52b), (14, .bool true), (15, .ro 3 (c66.map TEntry.c)), (16, .int .i64 (IntKind.i64.wrap (i16 + 1)))], [(0, .box (TPrefix.c p1)), (1, .box [.own 2 6 0 c58b.l.length, .own 3 1 0 c58b.free.length, .int .i64 c58b.root, .int .i64 c58b.n]), (2, .row 6 69 (c58b.l.map TNode.c)), (3, .row 1 3 (c58b.free.map c_i64))], 4⟩ (Nat.lt_succ_self _) (Conv.keep [0, 1, 2, 3] [] [4, 7, 9, 11, 14, 15, 16] rfl rfl (viewE_cons rfl rfl (viewE_cons rfl rfl (viewE_cons rfl rfl (viewE_cons rfl rfl (viewE_cons rfl rfl (viewE_cons rfl rfl (viewE_cons rfl rfl viewE_nil))))))) rfl rfl) ⟨(IntKind.i64.wrap (i16 + 1)), fuel_up hb105 (by omega) hfu104, (by ((try simp only [List.length_append, List.length_cons, List.length_nil, decide_eq_true_eq, decide_eq_false_iff_not] at *) <;> first | omega | (rw [wrap64_of (by omega) (by omega)]; omega))), hL_104, rfl⟩
 ·rw [hb80]
  obtain ⟨x8, hx79, hd79, hlt79⟩ := drop_more hb80
  rw [hd79, F7_crossroadslaw06_TrieOrder_l2] at hL_79
  refine GX.m rfl ?_
  iterate 2 refine GX.q (.bool (decide ((i8 : Int) < 150))) ?_
  refine GX.done ?_
  rcases bool_two (decide ((i8 : Int) < 150)) with hb117 | hb117
  ·rw [hb117]; try simp only [hb117, bb] at hL_79
   refine WK.condF rfl ?_
   refine WK.exit ?_
   refine QF.exit (hout_79 _ ?_)
   subst hL_79
   try dsimp only [cond_true, cond_false] at hR
   refine WK.sr mixed ?_
   refine GX.m rfl ?_
   generalize hc48 : F14_trie_Trie_Walk (⟨row2, row3, t_2_7, t_3_7⟩ : TTrie) = c48 at hR
   rcases c48 with _ | c48
   ·try dsimp only at hR
    cases hR
   try dsimp only at hR
   try dsimp only at hR
   refine GX.callx (r' := .ro 3 (c48.map TEntry.c)) (heap' := [(0, .box (TPrefix.c p1)), (1, .box [.own 2 6 0 row2.length, .own 3 1 0 row3.length, .int .i64 t_2_7, .int .i64 t_3_7]), (2, .row 6 69 (row2.map TNode.c)), (3, .row 1 3 (row3.map c_i64))]) (next' := 4) [1, 2, 3] [] rfl rfl rfl rfl rfl rfl (f14_ok (⟨row2, row3, t_2_7, t_3_7⟩ : TTrie) _ hc48) (.inl rfl) rfl rfl rfl ?_
   refine GX.m rfl ?_
   refine GX.done ?_
   refine WK.sr mixed ?_
   refine GX.m rfl ?_
   refine GX.q (.agg (TPrefix.c p1)) ?_
   generalize hc52 : F25_trie_Trie_Get (⟨row2, row3, t_2_7, t_3_7⟩ : TTrie) p1 = c52 at hR
   rcases c52 with _ | c52
   ·try dsimp only at hR
    cases hR
   try dsimp only at hR
   obtain ⟨c52a, c52b⟩ := c52; try dsimp only at hR
   refine GX.callx (r' := .tup [.int .i64 c52a, .bool c52b]) (heap' := [(0, .box (TPrefix.c p1)), (1, .box [.own 2 6 0 row2.length, .own 3 1 0 row3.length, .int .i64 t_2_7, .int .i64 t_3_7]), (2, .row 6 69 (row2.map TNode.c)), (3, .row 1 3 (row3.map c_i64))]) (next' := 4) [1, 2, 3] [] rfl rfl rfl rfl rfl rfl (f25_ok (⟨row2, row3, t_2_7, t_3_7⟩ : TTrie) p1 _ hc52) (.inl rfl) rfl rfl rfl ?_
   refine GX.m rfl ?_
   refine GX.q (.int .i64 c52a) ?_
   refine GX.q (.bool c52b) ?_
   iterate 2 refine GX.m rfl ?_
   refine GX.done ?_
   refine WK.sr mixed ?_
   refine GX.m rfl ?_
   refine GX.q (.agg (TPrefix.c p1)) ?_
   refine GX.m rfl ?_
   generalize hc58 : F10_trie_Trie_Set (⟨row2, row3, t_2_7, t_3_7⟩ : TTrie) p1 v2 = c58 at hR
   rcases c58 with _ | c58
   ·try dsimp only at hR
    cases hR
   try dsimp only at hR
   obtain ⟨c58a, c58b⟩ := c58; try dsimp only at hR
   refine GX.callx (r' := .int .i64 c58a) (heap' := [(0, .box (TPrefix.c p1)), (1, .box [.own 4 6 0 c58b.l.length, .own 5 1 0 c58b.free.length, .int .i64 c58b.root, .int .i64 c58b.n]), (5, .row 1 3 (c58b.free.map c_i64)), (4, .row 6 69 (c58b.l.map TNode.c))]) (next' := 6) [1, 2, 3] [] rfl rfl rfl rfl rfl rfl (f10_ok (⟨row2, row3, t_2_7, t_3_7⟩ : TTrie) p1 v2 _ hc58) (.inl rfl) rfl rfl rfl ?_
   refine GX.m rfl ?_
   refine GX.done ?_
   refine WK.sr mixed ?_
   refine GX.m rfl ?_
   refine GX.q (.agg (TPrefix.c p1)) ?_
   generalize hc62 : F25_trie_Trie_Get c58b p1 = c62 at hR
   rcases c62 with _ | c62
   ·try dsimp only at hR
    cases hR
   try dsimp only at hR
   obtain ⟨c62a, c62b⟩ := c62; try dsimp only at hR
   refine GX.callx (r' := .tup [.int .i64 c62a, .bool c62b]) (heap' := [(0, .box (TPrefix.c p1)), (1, .box [.own 4 6 0 c58b.l.length, .own 5 1 0 c58b.free.length, .int .i64 c58b.root, .int .i64 c58b.n]), (5, .row 1 3 (c58b.free.map c_i64)), (4, .row 6 69 (c58b.l.map TNode.c))]) (next' := 6) [1, 4, 5] [] rfl rfl rfl rfl rfl rfl (f25_ok c58b p1 _ hc62) (.inl rfl) rfl rfl rfl ?_
   refine GX.m rfl ?_
   refine GX.q (.int .i64 c62a) ?_
   refine GX.q (.bool c62b) ?_
   iterate 2 refine GX.m rfl ?_
   refine GX.done ?_
   refine WK.sr mixed ?_
   refine GX.m rfl ?_
   generalize hc66 : F14_trie_Trie_Walk c58b = c66 at hR
   rcases c66 with _ | c66
   ·try dsimp only at hR
    cases hR
   try dsimp only at hR
   try dsimp only at hR
   refine GX.callx (r' := .ro 3 (c66.map TEntry.c)) (heap' := [(0, .box (TPrefix.c p1)), (1, .box [.own 4 6 0 c58b.l.length, .own 5 1 0 c58b.free.length, .int .i64 c58b.root, .int .i64 c58b.n]), (5, .row 1 3 (c58b.free.map c_i64)), (4, .row 6 69 (c58b.l.map TNode.c))]) (next' := 6) [1, 4, 5] [] rfl rfl rfl rfl rfl rfl (f14_ok c58b _ hc66) (.inl rfl) rfl rfl rfl ?_
   refine GX.m rfl ?_
   refine GX.done ?_
   refine WK.seq ?_
   refine WK.sr mixed ?_
   iterate 2 refine GX.m rfl ?_
   refine GX.q (.bool (decide (c58a = 0))) ?_
   refine GX.q (.bool (!(c62b == (decide (c58a = 0))))) ?_
   refine GX.m rfl ?_
   rcases bool_two (c62b == (decide (c58a = 0))) with hb123 | hb123
   ·rw [hb123]; first | replace hR := cond_f hb123 hR | (try simp only [hb123, bb] at hR)
    iterate 6 refine GX.skip rfl rfl ?_
    refine GX.q (.bool true) ?_
    refine GX.m rfl ?_
    iterate 5 refine GX.skip rfl rfl ?_
    refine GX.q (.bool true) ?_
    refine GX.done ?_
    refine WK.condT rfl ?_
    refine WK.sr mixed ?_
    refine GX.m rfl ?_
    refine GX.done ?_
    refine WK.ret ?_
    obtain rfl := Option.some.inj hR
    exact RetQ.fr [] (.inr rfl) rfl rfl rfl rfl
   ·rw [hb123]; first | replace hR := cond_t hb123 hR | (try simp only [hb123, bb] at hR)
    iterate 2 refine GX.m rfl ?_
    rcases bool_two (c62b) with hb124 | hb124
    ·rw [hb124]; first | replace hR := cond_f hb124 hR | (try simp only [hb124, bb] at hR)
     iterate 3 refine GX.skip rfl rfl ?_
     iterate 2 refine GX.q (.bool false) ?_
     iterate 2 refine GX.m rfl ?_
     refine GX.q (.bool (decide (c58a = 0))) ?_
     refine GX.q (.agg (TPrefix.c p1)) ?_
     generalize hc83 : F28_crossroadsref03_May p1 = c83 at hR
     try dsimp only at hR
     refine GX.callp (r := .bool c83) rfl rfl rfl (f28_ok p1 _ hc83) rfl rfl ?_
     iterate 2 refine GX.q (.bool (!((decide (c58a = 0)) == c83))) ?_
     refine GX.done ?_
     rcases bool_two ((decide (c58a = 0)) == c83) with hb125 | hb125
     ·rw [hb125]; try simp only [hb125, bb] at hR
      refine WK.condT rfl ?_
      refine WK.sr mixed ?_
      refine GX.m rfl ?_
      refine GX.done ?_
      refine WK.ret ?_
      obtain rfl := Option.some.inj hR
      exact RetQ.fr [] (.inr rfl) rfl rfl rfl rfl
     ·rw [hb125]; try simp only [hb125, bb] at hR
      refine WK.condF rfl ?_
      refine WK.skip ?_
      refine WK.seq ?_
      refine WK.sr mixed ?_
      refine GX.m rfl ?_
      refine GX.done ?_
      refine WK.len (t := 15) rfl (by simp) (fun hln15_126 => ?_)
      rw [List.length_map] at hln15_126
      generalize hZ_126 : F7_crossroadslaw06_TrieOrder_l1 c66 (fuelUp 1 (c66.length : Int)) 1 = Z_126 at hR
      refine WK.forK (fun k s => ∃ (i16 : Int), fuelUp i16 (c66.length : Int) ≤ k ∧ 1 ≤ i16 ∧ F7_crossroadslaw06_TrieOrder_l1 c66 k i16 = Z_126 ∧ s = ⟨[(4, .ptr 0 0), (7, .ptr 1 0), (9, .ro 3 (c48.map TEntry.c)), (11, .bool c52b), (14, .bool false), (15, .ro 3 (c66.map TEntry.c)), (16, .int .i64 i16)], [(0, .box (TPrefix.c p1)), (1, .box [.own 2 6 0 c58b.l.length, .own 3 1 0 c58b.free.length, .int .i64 c58b.root, .int .i64 c58b.n]), (2, .row 6 69 (c58b.l.map TNode.c)), (3, .row 1 3 (c58b.free.map c_i64))], 4⟩) (fuelUp 1 (c66.length : Int)) ⟨⟨[(4, .ptr 0 0), (7, .ptr 1 0), (9, .ro 3 (c48.map TEntry.c)), (11, .bool c52b), (14, .bool false), (15, .ro 3 (c66.map TEntry.c)), (16, .int .i64 1)], [(0, .box (TPrefix.c p1)), (1, .box [.own 2 6 0 c58b.l.length, .own 3 1 0 c58b.free.length, .int .i64 c58b.root, .int .i64 c58b.n]), (2, .row 6 69 (c58b.l.map TNode.c)), (3, .row 1 3 (c58b.free.map c_i64))], 4⟩, Conv.keep [0, 1, 4, 5] [] [4, 7, 9, 11, 14, 15, 16] rfl rfl (viewE_cons rfl rfl (viewE_cons rfl rfl (viewE_cons rfl rfl (viewE_cons rfl rfl (viewE_cons rfl rfl (viewE_cons rfl rfl (viewE_cons rfl rfl viewE_nil))))))) rfl rfl, 1, Nat.le_refl _, (by omega), hZ_126, rfl⟩ ?_
      rintro k126 _ ⟨i16, hfu126, hinv126_c0, hL_126, rfl⟩ again_126 out_126 Q_126 hagain_126 hout_126 hQ_126
      refine WK.seq ?_
      refine WK.sr mixed ?_
      iterate 2 refine GX.m rfl ?_
      refine GX.pure (v' := .int .i64 (c66.length : Int)) rfl rfl rfl rfl (len_map _ _) ?_
      refine GX.q (.bool (decide (i16 < (c66.length : Int)))) ?_
      refine GX.done ?_
      rcases bool_two (decide (i16 < (c66.length : Int))) with hb127 | hb127
      ·rw [hb127]
       unfold F7_crossroadslaw06_TrieOrder_l1 at hL_126; rw [hb127, cond_false] at hL_126
       refine WK.condF rfl ?_
       refine WK.exit ?_
       refine QF.exit (hout_126 _ ?_)
       subst hL_126
       try dsimp only [cond_true, cond_false] at hR
       refine WK.sr mixed ?_
       refine GX.m rfl ?_
       refine GX.q (.agg (TPrefix.c p1)) ?_
       generalize hc108 : F17_crossroadsref06_Drop c48 p1 = c108 at hR
       rcases c108 with _ | c108
       ·try dsimp only at hR
        cases hR
       try dsimp only at hR
       obtain ⟨c108a, c108b⟩ := c108; try dsimp only at hR
       refine GX.callp (r := .tup [.ro 3 (c108a.map TEntry.c), .bool c108b]) rfl rfl rfl (f17_ok c48 p1 _ hc108) rfl rfl ?_
       refine GX.m rfl ?_
       refine GX.q (.ro 3 (c108a.map TEntry.c)) ?_
       refine GX.q (.bool c108b) ?_
       iterate 2 refine GX.m rfl ?_
       refine GX.done ?_
       refine WK.sr mixed ?_
       refine GX.m rfl ?_
       refine GX.q (.agg (TPrefix.c p1)) ?_
       generalize hc114 : F17_crossroadsref06_Drop c66 p1 = c114 at hR
       rcases c114 with _ | c114
       ·try dsimp only at hR
        cases hR
       try dsimp only at hR
       obtain ⟨c114a, c114b⟩ := c114; try dsimp only at hR
       refine GX.callp (r := .tup [.ro 3 (c114a.map TEntry.c), .bool c114b]) rfl rfl rfl (f17_ok c66 p1 _ hc114) rfl rfl ?_
       refine GX.m rfl ?_
       refine GX.q (.ro 3 (c114a.map TEntry.c)) ?_
       refine GX.q (.bool c114b) ?_
       iterate 2 refine GX.m rfl ?_
       refine GX.done ?_
       refine WK.sr mixed ?_
       refine GX.m rfl ?_
       refine GX.q (.agg (TPrefix.c p1)) ?_
       generalize hc119 : F16_trie_Trie_Drop c58b p1 = c119 at hR
       rcases c119 with _ | c119
       ·try dsimp only at hR
        cases hR
       try dsimp only at hR
       obtain ⟨c119a, c119b⟩ := c119; try dsimp only at hR
       refine GX.callx (r' := .bool c119a) (heap' := [(0, .box (TPrefix.c p1)), (1, .box [.own 4 6 0 c119b.l.length, .own 5 1 0 c119b.free.length, .int .i64 c119b.root, .int .i64 c119b.n]), (5, .row 1 3 (c119b.free.map c_i64)), (4, .row 6 69 (c119b.l.map TNode.c))]) (next' := 6) [1, 2, 3] [] rfl rfl rfl rfl rfl rfl (f16_ok c58b p1 _ hc119) (.inl rfl) rfl rfl rfl ?_
       refine GX.m rfl ?_
       refine GX.done ?_
       refine WK.sr mixed ?_
       generalize hc120 : F12_crossroadslaw06_alive = c120 at hR
       try dsimp only at hR
       refine GX.callp (r := .bool c120) rfl rfl rfl (f12_ok  _ hc120) rfl rfl ?_
       refine GX.m rfl ?_
       rcases bool_two (c120) with hb129 | hb129
       ·rw [hb129]; first | replace hR := cond_f hb129 hR | (try simp only [hb129, bb] at hR)
        iterate 3 refine GX.skip rfl rfl ?_
        refine GX.q (.bool false) ?_
        refine GX.m rfl ?_
        iterate 4 refine GX.skip rfl rfl ?_
        refine GX.q (.bool false) ?_
        refine GX.m rfl ?_
        iterate 3 refine GX.skip rfl rfl ?_
        refine GX.q (.bool false) ?_
        refine GX.m rfl ?_
        iterate 5 refine GX.skip rfl rfl ?_
        refine GX.q (.bool false) ?_
        refine GX.m rfl ?_
        refine GX.done ?_
        refine WK.ret ?_
        obtain rfl := Option.some.inj hR
        exact RetQ.fr [] (.inr rfl) rfl rfl rfl rfl
       ·rw [hb129]; first | replace hR := cond_t hb129 hR | (try simp only [hb129, bb] at hR)
        iterate 2 refine GX.m rfl ?_
        generalize hc124 : F13_crossroadsref06_Same c108a c114a = c124 at hR
        try dsimp only at hR
        refine GX.callp (r := .bool c124) rfl rfl rfl (f13_ok c108a c114a _ hc124) rfl rfl ?_
        refine GX.q (.bool c124) ?_
        refine GX.m rfl ?_
        rcases bool_two (c124) with hb130 | hb130
        ·rw [hb130]; first | replace hR := cond_f hb130 hR | (try simp only [hb130, bb] at hR)
         iterate 4 refine GX.skip rfl rfl ?_
         refine GX.q (.bool false) ?_
         refine GX.m rfl ?_
         iterate 3 refine GX.skip rfl rfl ?_
         refine GX.q (.bool false) ?_
         refine GX.m rfl ?_
         iterate 5 refine GX.skip rfl rfl ?_
         refine GX.q (.bool false) ?_
         refine GX.m rfl ?_
         refine GX.done ?_
         refine WK.ret ?_
         obtain rfl := Option.some.inj hR
         exact RetQ.fr [] (.inr rfl) rfl rfl rfl rfl
        ·rw [hb130]; first | replace hR := cond_t hb130 hR | (try simp only [hb130, bb] at hR)
         refine GX.m rfl ?_
         generalize hc128 : F14_trie_Trie_Walk c119b = c128 at hR
         rcases c128 with _ | c128
         ·try dsimp only at hR
          cases hR
         try dsimp only at hR
         try dsimp only at hR
         refine GX.callx (r' := .ro 3 (c128.map TEntry.c)) (heap' := [(0, .box (TPrefix.c p1)), (1, .box [.own 4 6 0 c119b.l.length, .own 5 1 0 c119b.free.length, .int .i64 c119b.root, .int .i64 c119b.n]), (5, .row 1 3 (c119b.free.map c_i64)), (4, .row 6 69 (c119b.l.map TNode.c))]) (next' := 6) [1, 4, 5] [] rfl rfl rfl rfl rfl rfl (f14_ok c119b _ hc128) (.inl rfl) rfl rfl rfl ?_
         refine GX.m rfl ?_
         generalize hc130 : F13_crossroadsref06_Same c128 c108a = c130 at hR
         try dsimp only at hR
         refine GX.callp (r := .bool c130) rfl rfl rfl (f13_ok c128 c108a _ hc130) rfl rfl ?_
         refine GX.q (.bool c130) ?_
         refine GX.m rfl ?_
         rcases bool_two (c130) with hb132 | hb132
         ·rw [hb132]; first | replace hR := cond_f hb132 hR | (try simp only [hb132, bb] at hR)
          iterate 3 refine GX.skip rfl rfl ?_
          refine GX.q (.bool false) ?_
          refine GX.m rfl ?_
          iterate 5 refine GX.skip rfl rfl ?_
          refine GX.q (.bool false) ?_
          refine GX.m rfl ?_
          refine GX.done ?_
          refine WK.ret ?_
          obtain rfl := Option.some.inj hR
          exact RetQ.fr [] (.inr rfl) rfl rfl rfl rfl
         ·rw [hb132]; first | replace hR := cond_t hb132 hR | (try simp only [hb132, bb] at hR)
          iterate 2 refine GX.m rfl ?_
          iterate 2 refine GX.q (.bool (c119a == false)) ?_
          refine GX.m rfl ?_
          rcases bool_two ((c119a == false)) with hb133 | hb133
          ·rw [hb133]; try simp only [hb133, bb] at hR
           iterate 5 refine GX.skip rfl rfl ?_
           refine GX.q (.bool false) ?_
           refine GX.m rfl ?_
           refine GX.done ?_
           refine WK.ret ?_
           obtain rfl := Option.some.inj hR
           exact RetQ.fr [] (.inr rfl) rfl rfl rfl rfl
          ·rw [hb133]; try simp only [hb133, bb] at hR
           refine GX.m rfl ?_
           refine GX.q (.bool (!c52b)) ?_
           refine GX.m rfl ?_
           rcases bool_two (c52b) with hb134 | hb134
           ·rw [hb134]; first | replace hR := cond_f hb134 hR | (try simp only [hb134, bb] at hR)
            refine GX.skip rfl rfl ?_
            iterate 2 refine GX.q (.bool true) ?_
            refine GX.m rfl ?_
            refine GX.done ?_
            refine WK.ret ?_
            obtain rfl := Option.some.inj hR
            exact RetQ.fr [] (.inr rfl) rfl rfl rfl rfl
           ·rw [hb134]; first | replace hR := cond_t hb134 hR | (try simp only [hb134, bb] at hR)
            refine GX.m rfl ?_
            iterate 2 refine GX.q (.bool false) ?_
            refine GX.m rfl ?_
            refine GX.done ?_
            refine WK.ret ?_
            obtain rfl := Option.some.inj hR
            exact RetQ.fr [] (.inr rfl) rfl rfl rfl rfl
      ·rw [hb127]
       obtain ⟨f126, rfl⟩ := fuel_pos hb127 hfu126
       unfold F7_crossroadslaw06_TrieOrder_l1 at hL_126; rw [hb127, cond_true] at hL_126; dsimp only at hL_126
       refine WK.condT rfl ?_
       refine WK.skip ?_
       refine WK.seq ?_
       refine WK.blockK (fun _ hK135 => ?_)
       refine WK.seq ?_
       refine WK.drawn mixed ?_
       iterate 2 refine RD.m rfl ?_
       refine RD.q (.int .i64 (IntKind.i64.wrap (i16 - 1))) ?_
       generalize hx1035 : getI c66 (IntKind.i64.wrap (i16 - 1)) = x1035 at hL_126
       rcases x1035 with _ | x1035
       ·try dsimp only at hL_126
        subst hL_126
        try dsimp only at hR
        cases hR
       try dsimp only at hL_126
       obtain ⟨hx10350, hx1035j, hx1035l, hx1035⟩ := getI_some hx1035
       refine RD.idxT (c := TEntry.c) (x := x1035) rfl rfl rfl hx10350 hx1035 ?_
       refine RD.q (.rptr (TEntry.c x1035)) ?_
       refine RD.q (.agg [.int .u32 x1035.P.A, .int .i64 x1035.P.N]) ?_
       iterate 2 refine RD.m rfl ?_
       generalize hx1036 : getI c66 i16 = x1036 at hL_126
       rcases x1036 with _ | x1036
       ·try dsimp only at hL_126
        subst hL_126
        try dsimp only at hR
        cases hR
       try dsimp only at hL_126
       obtain ⟨hx10360, hx1036j, hx1036l, hx1036⟩ := getI_some hx1036
       refine RD.idxT (c := TEntry.c) (x := x1036) rfl rfl rfl hx10360 hx1036 ?_
       refine RD.q (.rptr (TEntry.c x1036)) ?_
       refine RD.q (.agg [.int .u32 x1036.P.A, .int .i64 x1036.P.N]) ?_
       generalize hc103 : F29_crossroadsref03_Less x1035.P x1036.P = c103 at hL_126
       try dsimp only at hL_126
       refine RD.callp (r := .bool c103) rfl rfl rfl (f29_ok x1035.P x1036.P _ hc103) rfl rfl ?_
       refine RD.q (.bool (!c103)) ?_
       refine RD.done rfl ?_
       rcases bool_two (c103) with hb138 | hb138
       ·rw [hb138]; try simp only [hb138, bb] at hL_126
        refine WK.condT rfl ?_
        refine WK.sr mixed ?_
        refine GX.m rfl ?_
        refine GX.done ?_
        refine WK.ret ?_
        refine QF.ret ?_
        refine QF.ret (hQ_126 _ _ ?_)
        subst hL_126
        try dsimp only at hR
        obtain rfl := Option.some.inj hR
        exact RetQ.fr [] (.inr rfl) rfl rfl rfl rfl
       ·rw [hb138]; try simp only [hb138, bb] at hL_126
        refine WK.condF rfl ?_
        refine WK.skip ?_
        refine WK.nil (QF.normal (hK135 _ ?_))
        refine WK.regx mixed ?_
        refine GX.m rfl ?_
        refine GX.q (.int .i64 (IntKind.i64.wrap (i16 + 1))) ?_
        refine GX.m rfl ?_
        refine GX.done ?_
        refine WK.nil (QF.normal ?_)
        exact hagain_126 _ f126 ⟨[(4, .ptr 0 0), (7, .ptr 1 0), (9, .ro 3 (c48.map TEntry.c)), (11, .bool c52b), (14, .bool false), (15, .ro 3 (c66.map TEntry.c)), (16, .int .i64 (IntKind.i64.wrap (i16 + 1)))], [(0, .box (TPrefix.c p1)), (1, .box [.own 2 6 0 c58b.l.length, .own 3 1 0 c58b.free.length, .int .i64 c58b.root, .int .i64 c58b.n]), (2, .row 6 69 (c58b.l.map TNode.c)), (3, .row 1 3 (c58b.free.map c_i64))], 4⟩ (Nat.lt_succ_self _) (Conv.keep [0, 1, 2, 3] [] [4, 7, 9, 11, 14, 15, 16] rfl rfl (viewE_cons rfl rfl (viewE_cons rfl rfl (viewE_cons rfl rfl (viewE_cons rfl rfl (viewE_cons rfl rfl (viewE_cons rfl rfl (viewE_cons rfl rfl viewE_nil))))))) rfl rfl) ⟨(IntKind.i64.wrap (i16 + 1)), fuel_up hb127 (by omega) hfu126, (by ((try simp only [List.length_append, List.length_cons, List.length_nil, decide_eq_true_eq, decide_eq_false_iff_not] at *) <;> first | omega | (rw [wrap64_of (by omega) (by omega)]; omega))), hL_126, rfl⟩
    ·rw [hb124]; first | replace hR := cond_t hb124 hR | (try simp only [hb124, bb] at hR)
     iterate 2 refine GX.m rfl ?_
     iterate 3 refine GX.q (.bool (!decide (c62a = v2))) ?_
     refine GX.m rfl ?_
     rcases bool_two (decide (c62a = v2)) with hb139 | hb139
     ·rw [hb139]; first | replace hR := cond_f hb139 hR | (try simp only [hb139, bb] at hR)
      iterate 5 refine GX.skip rfl rfl ?_
      refine GX.q (.bool true) ?_
      refine GX.done ?_
      refine WK.condT rfl ?_
      refine WK.sr mixed ?_
      refine GX.m rfl ?_
      refine GX.done ?_
      refine WK.ret ?_
      obtain rfl := Option.some.inj hR
      exact RetQ.fr [] (.inr rfl) rfl rfl rfl rfl
     ·rw [hb139]; first | replace hR := cond_t hb139 hR | (try simp only [hb139, bb] at hR)
      refine GX.m rfl ?_
      refine GX.q (.bool (decide (c58a = 0))) ?_
      refine GX.q (.agg (TPrefix.c p1)) ?_
      generalize hc83 : F28_crossroadsref03_May p1 = c83 at hR
      try dsimp only at hR
      refine GX.callp (r := .bool c83) rfl rfl rfl (f28_ok p1 _ hc83) rfl rfl ?_
      iterate 2 refine GX.q (.bool (!((decide (c58a = 0)) == c83))) ?_
      refine GX.done ?_
      rcases bool_two ((decide (c58a = 0)) == c83) with hb140 | hb140
      ·rw [hb140]; try simp only [hb140, bb] at hR
       refine WK.condT rfl ?_
       refine WK.sr mixed ?_
       refine GX.m rfl ?_
       refine GX.done ?_
       refine WK.ret ?_
       obtain rfl := Option.some.inj hR
       exact RetQ.fr [] (.inr rfl) rfl rfl rfl rfl
      ·rw [hb140]; try simp only [hb140, bb] at hR
       refine WK.condF rfl ?_
       refine WK.skip ?_
       refine WK.seq ?_
       refine WK.sr mixed ?_
       refine GX.m rfl ?_
       refine GX.done ?_
       refine WK.len (t := 15) rfl (by simp) (fun hln15_141 => ?_)
       rw [List.length_map] at hln15_141
       generalize hZ_141 : F7_crossroadslaw06_TrieOrder_l1 c66 (fuelUp 1 (c66.length : Int)) 1 = Z_141 at hR
       refine WK.forK (fun k s => ∃ (i16 : Int), fuelUp i16 (c66.length : Int) ≤ k ∧ 1 ≤ i16 ∧ F7_crossroadslaw06_TrieOrder_l1 c66 k i16 = Z_141 ∧ s = ⟨[(4, .ptr 0 0), (7, .ptr 1 0), (9, .ro 3 (c48.map TEntry.c)), (11, .bool c52b), (14, .bool true), (15, .ro 3 (c66.map TEntry.c)), (16, .int .i64 i16)], [(0, .box (TPrefix.c p1)), (1, .box [.own 2 6 0 c58b.l.length, .own 3 1 0 c58b.free.length, .int .i64 c58b.root, .int .i64 c58b.n]), (2, .row 6 69 (c58b.l.map TNode.c)), (3, .row 1 3 (c58b.free.map c_i64))], 4⟩) (fuelUp 1 (c66.length : Int)) ⟨⟨[(4, .ptr 0 0), (7, .ptr 1 0), (9, .ro 3 (c48.map TEntry.c)), (11, .bool c52b), (14, .bool true), (15, .ro 3 (c66.map TEntry.c)), (16, .int .i64 1)], [(0, .box (TPrefix.c p1)), (1, .box [.own 2 6 0 c58b.l.length, .own 3 1 0 c58b.free.length, .int .i64 c58b.root, .int .i64 c58b.n]), (2, .row 6 69 (c58b.l.map TNode.c)), (3, .row 1 3 (c58b.free.map c_i64))], 4⟩, Conv.keep [0, 1, 4, 5] [] [4, 7, 9, 11, 14, 15, 16] rfl rfl (viewE_cons rfl rfl (viewE_cons rfl rfl (viewE_cons rfl rfl (viewE_cons rfl rfl (viewE_cons rfl rfl (viewE_cons rfl rfl (viewE_cons rfl rfl viewE_nil))))))) rfl rfl, 1, Nat.le_refl _, (by omega), hZ_141, rfl⟩ ?_
       rintro k141 _ ⟨i16, hfu141, hinv141_c0, hL_141, rfl⟩ again_141 out_141 Q_141 hagain_141 hout_141 hQ_141
       refine WK.seq ?_
       refine WK.sr mixed ?_
       iterate 2 refine GX.m rfl ?_
       refine GX.pure (v' := .int .i64 (c66.length : Int)) rfl rfl rfl rfl (len_map _ _) ?_
       refine GX.q (.bool (decide (i16 < (c66.length : Int)))) ?_
       refine GX.done ?_
       rcases bool_two (decide (i16 < (c66.length : Int))) with hb142 | hb142
       ·rw [hb142]
        unfold F7_crossroadslaw06_TrieOrder_l1 at hL_141; rw [hb142, cond_false] at hL_141
        refine WK.condF rfl ?_
        refine WK.exit ?_
        refine QF.exit (hout_141 _ ?_)
        subst hL_141
        try dsimp only [cond_true, cond_false] at hR
        refine WK.sr mixed ?_
        refine GX.m rfl ?_
        refine GX.q (.agg (TPrefix.c p1)) ?_
        generalize hc108 : F17_crossroadsref06_Drop c48 p1 = c108 at hR
        rcases c108 with _ | c108
        ·try dsimp only at hR
         cases hR
        try dsimp only at hR
        obtain ⟨c108a, c108b⟩ := c108; try dsimp only at hR
        refine GX.callp (r := .tup [.ro 3 (c108a.map TEntry.c), .bool c108b]) rfl rfl rfl (f17_ok c48 p1 _ hc108) rfl rfl ?_
        refine GX.m rfl ?_
        refine GX.q (.ro 3 (c108a.map TEntry.c)) ?_
        refine GX.q (.bool c108b) ?_
        iterate 2 refine GX.m rfl ?_
        refine GX.done ?_
        refine WK.sr mixed ?_
        refine GX.m rfl ?_
        refine GX.q (.agg (TPrefix.c p1)) ?_
        generalize hc114 : F17_crossroadsref06_Drop c66 p1 = c114 at hR
        rcases c114 with _ | c114
        ·try dsimp only at hR
         cases hR
        try dsimp only at hR
        obtain ⟨c114a, c114b⟩ := c114; try dsimp only at hR
        refine GX.callp (r := .tup [.ro 3 (c114a.map TEntry.c), .bool c114b]) rfl rfl rfl (f17_ok c66 p1 _ hc114) rfl rfl ?_
        refine GX.m rfl ?_
        refine GX.q (.ro 3 (c114a.map TEntry.c)) ?_
        refine GX.q (.bool c114b) ?_
        iterate 2 refine GX.m rfl ?_
        refine GX.done ?_
        refine WK.sr mixed ?_
        refine GX.m rfl ?_
        refine GX.q (.agg (TPrefix.c p1)) ?_
        generalize hc119 : F16_trie_Trie_Drop c58b p1 = c119 at hR
        rcases c119 with _ | c119
        ·try dsimp only at hR
         cases hR
        try dsimp only at hR
        obtain ⟨c119a, c119b⟩ := c119; try dsimp only at hR
        refine GX.callx (r' := .bool c119a) (heap' := [(0, .box (TPrefix.c p1)), (1, .box [.own 4 6 0 c119b.l.length, .own 5 1 0 c119b.free.length, .int .i64 c119b.root, .int .i64 c119b.n]), (5, .row 1 3 (c119b.free.map c_i64)), (4, .row 6 69 (c119b.l.map TNode.c))]) (next' := 6) [1, 2, 3] [] rfl rfl rfl rfl rfl rfl (f16_ok c58b p1 _ hc119) (.inl rfl) rfl rfl rfl ?_
        refine GX.m rfl ?_
        refine GX.done ?_
        refine WK.sr mixed ?_
        generalize hc120 : F12_crossroadslaw06_alive = c120 at hR
        try dsimp only at hR
        refine GX.callp (r := .bool c120) rfl rfl rfl (f12_ok  _ hc120) rfl rfl ?_
        refine GX.m rfl ?_
        rcases bool_two (c120) with hb144 | hb144
        ·rw [hb144]; first | replace hR := cond_f hb144 hR | (try simp only [hb144, bb] at hR)
         iterate 3 refine GX.skip rfl rfl ?_
         refine GX.q (.bool false) ?_
         refine GX.m rfl ?_
         iterate 4 refine GX.skip rfl rfl ?_
         refine GX.q (.bool false) ?_
         refine GX.m rfl ?_
         iterate 3 refine GX.skip rfl rfl ?_
         refine GX.q (.bool false) ?_
         refine GX.m rfl ?_
         iterate 5 refine GX.skip rfl rfl ?_
         refine GX.q (.bool false) ?_
         refine GX.m rfl ?_
         refine GX.done ?_
         refine WK.ret ?_
         obtain rfl := Option.some.inj hR
         exact RetQ.fr [] (.inr rfl) rfl rfl rfl rfl
        ·rw [hb144]; first | replace hR := cond_t hb144 hR | (try simp only [hb144, bb] at hR)
         iterate 2 refine GX.m rfl ?_
         generalize hc124 : F13_crossroadsref06_Same c108a c114a = c124 at hR
         try dsimp only at hR
         refine GX.callp (r := .bool c124) rfl rfl rfl (f13_ok c108a c114a _ hc124) rfl rfl ?_
         refine GX.q (.bool c124) ?_
         refine GX.m rfl ?_
         rcases bool_two (c124) with hb145 | hb145
         ·rw [hb145]; first | replace hR := cond_f hb145 hR | (try simp only [hb145, bb] at hR)
          iterate 4 refine GX.skip rfl rfl ?_
          refine GX.q (.bool false) ?_
          refine GX.m rfl ?_
          iterate 3 refine GX.skip rfl rfl ?_
          refine GX.q (.bool false) ?_
          refine GX.m rfl ?_
          iterate 5 refine GX.skip rfl rfl ?_
          refine GX.q (.bool false) ?_
          refine GX.m rfl ?_
          refine GX.done ?_
          refine WK.ret ?_
          obtain rfl := Option.some.inj hR
          exact RetQ.fr [] (.inr rfl) rfl rfl rfl rfl
         ·rw [hb145]; first | replace hR := cond_t hb145 hR | (try simp only [hb145, bb] at hR)
          refine GX.m rfl ?_
          generalize hc128 : F14_trie_Trie_Walk c119b = c128 at hR
          rcases c128 with _ | c128
          ·try dsimp only at hR
           cases hR
          try dsimp only at hR
          try dsimp only at hR
          refine GX.callx (r' := .ro 3 (c128.map TEntry.c)) (heap' := [(0, .box (TPrefix.c p1)), (1, .box [.own 4 6 0 c119b.l.length, .own 5 1 0 c119b.free.length, .int .i64 c119b.root, .int .i64 c119b.n]), (5, .row 1 3 (c119b.free.map c_i64)), (4, .row 6 69 (c119b.l.map TNode.c))]) (next' := 6) [1, 4, 5] [] rfl rfl rfl rfl rfl rfl (f14_ok c119b _ hc128) (.inl rfl) rfl rfl rfl ?_
          refine GX.m rfl ?_
          generalize hc130 : F13_crossroadsref06_Same c128 c108a = c130 at hR
          try dsimp only at hR
          refine GX.callp (r := .bool c130) rfl rfl rfl (f13_ok c128 c108a _ hc130) rfl rfl ?_
          refine GX.q (.bool c130) ?_
          refine GX.m rfl ?_
          rcases bool_two (c130) with hb147 | hb147
          ·rw [hb147]; first | replace hR := cond_f hb147 hR | (try simp only [hb147, bb] at hR)
           iterate 3 refine GX.skip rfl rfl ?_
           refine GX.q (.bool false) ?_
           refine GX.m rfl ?_
           iterate 5 refine GX.skip rfl rfl ?_
           refine GX.q (.bool false) ?_
           refine GX.m rfl ?_
           refine GX.done ?_
           refine WK.ret ?_
           obtain rfl := Option.some.inj hR
           exact RetQ.fr [] (.inr rfl) rfl rfl rfl rfl
          ·rw [hb147]; first | replace hR := cond_t hb147 hR | (try simp only [hb147, bb] at hR)
           iterate 2 refine GX.m rfl ?_
           iterate 2 refine GX.q (.bool (c119a == true)) ?_
           refine GX.m rfl ?_
           rcases bool_two ((c119a == true)) with hb148 | hb148
           ·rw [hb148]; try simp only [hb148, bb] at hR
            iterate 5 refine GX.skip rfl rfl ?_
            refine GX.q (.bool false) ?_
            refine GX.m rfl ?_
            refine GX.done ?_
            refine WK.ret ?_
            obtain rfl := Option.some.inj hR
            exact RetQ.fr [] (.inr rfl) rfl rfl rfl rfl
           ·rw [hb148]; try simp only [hb148, bb] at hR
            refine GX.m rfl ?_
            refine GX.q (.bool (!c52b)) ?_
            refine GX.m rfl ?_
            rcases bool_two (c52b) with hb149 | hb149
            ·rw [hb149]; first | replace hR := cond_f hb149 hR | (try simp only [hb149, bb] at hR)
             refine GX.skip rfl rfl ?_
             iterate 2 refine GX.q (.bool true) ?_
             refine GX.m rfl ?_
             refine GX.done ?_
             refine WK.ret ?_
             obtain rfl := Option.some.inj hR
             exact RetQ.fr [] (.inr rfl) rfl rfl rfl rfl
            ·rw [hb149]; first | replace hR := cond_t hb149 hR | (try simp only [hb149, bb] at hR)
             refine GX.m rfl ?_
             iterate 2 refine GX.q (.bool true) ?_
             refine GX.m rfl ?_
             refine GX.done ?_
             refine WK.ret ?_
             obtain rfl := Option.some.inj hR
             exact RetQ.fr [] (.inr rfl) rfl rfl rfl rfl
       ·rw [hb142]
        obtain ⟨f141, rfl⟩ := fuel_pos hb142 hfu141
        unfold F7_crossroadslaw06_TrieOrder_l1 at hL_141; rw [hb142, cond_true] at hL_141; dsimp only at hL_141
        refine WK.condT rfl ?_
        refine WK.skip ?_
        refine WK.seq ?_
        refine WK.blockK (fun _ hK150 => ?_)
        refine WK.seq ?_
        refine WK.drawn mixed ?_
        iterate 2 refine RD.m rfl ?_
        refine RD.q (.int .i64 (IntKind.i64.wrap (i16 - 1))) ?_
        generalize hx1050 : getI c66 (IntKind.i64.wrap (i16 - 1)) = x1050 at hL_141
        rcases x1050 with _ | x1050
        ·try dsimp only at hL_141
         subst hL_141
         try dsimp only at hR
         cases hR
        try dsimp only at hL_141
        obtain ⟨hx10500, hx1050j, hx1050l, hx1050⟩ := getI_some hx1050
        refine RD.idxT (c := TEntry.c) (x := x1050) rfl rfl rfl hx10500 hx1050 ?_
        refine RD.q (.rptr (TEntry.c x1050)) ?_
        refine RD.q (.agg [.int .u32 x1050.P.A, .int .i64 x1050.P.N]) ?_
        iterate 2 refine RD.m rfl ?_
        generalize hx1051 : getI c66 i16 = x1051 at hL_141
        rcases x1051 with _ | x1051
        ·try dsimp only at hL_141
         subst hL_141
         try dsimp only at hR
         cases hR
        try dsimp only at hL_141
        obtain ⟨hx10510, hx1051j, hx1051l, hx1051⟩ := getI_some hx1051
        refine RD.idxT (c := TEntry.c) (x := x1051) rfl rfl rfl hx10510 hx1051 ?_
        refine RD.q (.rptr (TEntry.c x1051)) ?_
        refine RD.q (.agg [.int .u32 x1051.P.A, .int .i64 x1051.P.N]) ?_
        generalize hc103 : F29_crossroadsref03_Less x1050.P x1051.P = c103 at hL_141
        try dsimp only at hL_141
        refine RD.callp (r := .bool c103) rfl rfl rfl (f29_ok x1050.P x1051.P _ hc103) rfl rfl ?_
        refine RD.q (.bool (!c103)) ?_
        refine RD.done rfl ?_
        rcases bool_two (c103) with hb153 | hb153
        ·rw [hb153]; try simp only [hb153, bb] at hL_141
         refine WK.condT rfl ?_
         refine WK.sr mixed ?_
         refine GX.m rfl ?_
         refine GX.done ?_
         refine WK.ret ?_
         refine QF.ret ?_
         refine QF.ret (hQ_141 _ _ ?_)
         subst hL_141
         try dsimp only at hR
         obtain rfl := Option.some.inj hR
         exact RetQ.fr [] (.inr rfl) rfl rfl rfl rfl
        ·rw [hb153]; try simp only [hb153, bb] at hL_141
         refine WK.condF rfl ?_
         refine WK.skip ?_
         refine WK.nil (QF.normal (hK150 _ ?_))
         refine WK.regx mixed ?_
         refine GX.m rfl ?_
         refine GX.q (.int .i64 (IntKind.i64.wrap (i16 + 1))) ?_
         refine GX.m rfl ?_
         refine GX.done ?_
         refine WK.nil (QF.normal ?_)
         exact hagain_141 _ f141 ⟨[(4, .ptr 0 0), (7, .ptr 1 0), (9, .ro 3 (c48.map TEntry.c)), (11, .bool c52b), (14, .bool true), (15, .ro 3 (c66.map TEntry.c)), (16, .int .i64 (IntKind.i64.wrap (i16 + 1)))], [(0, .box (TPrefix.c p1)), (1, .box [.own 2 6 0 c58b.l.length, .own 3 1 0 c58b.free.length, .int .i64 c58b.root, .int .i64 c58b.n]), (2, .row 6 69 (c58b.l.map TNode.c)), (3, .row 1 3 (c58b.free.map c_i64))], 4⟩ (Nat.lt_succ_self _) (Conv.keep [0, 1, 2, 3] [] [4, 7, 9, 11, 14, 15, 16] rfl rfl (viewE_cons rfl rfl (viewE_cons rfl rfl (viewE_cons rfl rfl (viewE_cons rfl rfl (viewE_cons rfl rfl (viewE_cons rfl rfl (viewE_cons rfl rfl viewE_nil))))))) rfl rfl) ⟨(IntKind.i64.wrap (i16 + 1)), fuel_up hb142 (by omega) hfu141, (by ((try simp only [List.length_append, List.length_cons, List.length_nil, decide_eq_true_eq, decide_eq_false_iff_not] at *) <;> first | omega | (rw [wrap64_of (by omega) (by omega)]; omega))), hL_141, rfl⟩
  ·rw [hb117]; try simp only [hb117, bb] at hL_79
   refine WK.condT rfl ?_
   refine WK.skip ?_
   refine WK.seq ?_
   refine WK.blockK (fun _ hK154 => ?_)
   refine WK.drawn mixed ?_
   iterate 3 refine RD.m rfl ?_
   refine RD.idxT (c := TAct.c) (x := x8) rfl rfl rfl (Int.natCast_nonneg _) hx79 ?_
   refine RD.q (.rptr [.int .u32 x8.P.A, .int .i64 x8.P.N, .int .i64 x8.V, .int .u32 x8.A]) ?_
   refine RD.q (.agg [.int .u32 x8.P.A, .int .i64 x8.P.N]) ?_
   iterate 2 refine RD.m rfl ?_
   refine RD.idxT (c := TAct.c) (x := x8) rfl rfl rfl (Int.natCast_nonneg _) hx79 ?_
   refine RD.q (.rptr [.int .i64 x8.V, .int .u32 x8.A]) ?_
   refine RD.q (.int .i64 x8.V) ?_
   generalize hc46 : F10_trie_Trie_Set (⟨row2, row3, t_2_7, t_3_7⟩ : TTrie) x8.P x8.V = c46 at hL_79
   rcases c46 with _ | c46
   ·try dsimp only at hL_79
    subst hL_79
    try dsimp only at hR
    cases hR
   try dsimp only at hL_79
   obtain ⟨c46a, c46b⟩ := c46; try dsimp only at hL_79
   refine RD.callx (r' := .int .i64 c46a) (heap' := [(0, .box (TPrefix.c p1)), (1, .box [.own 4 6 0 c46b.l.length, .own 5 1 0 c46b.free.length, .int .i64 c46b.root, .int .i64 c46b.n]), (5, .row 1 3 (c46b.free.map c_i64)), (4, .row 6 69 (c46b.l.map TNode.c))]) (next' := 6) [1, 2, 3] [] rfl rfl rfl rfl rfl rfl (f10_ok (⟨row2, row3, t_2_7, t_3_7⟩ : TTrie) x8.P x8.V _ hc46) (.inl rfl) rfl rfl rfl ?_
   refine RD.done rfl ?_
   refine WK.nil (QF.normal (hK154 _ ?_))
   refine WK.regx mixed ?_
   refine GX.m rfl ?_
   refine GX.pure (v' := .int .i64 ((i8 + 1 : Nat) : Int)) rfl rfl rfl rfl (congrArg (PVal.int .i64) (wrap_up hlt79 hlen_79)) ?_
   refine GX.m rfl ?_
   refine GX.done ?_
   refine WK.nil (QF.normal ?_)
   exact hagain_79 _ (script0.length - (i8 + 1)) ⟨[(0, .ro 5 (script0.map TAct.c)), (2, .int .i64 v2), (4, .ptr 0 0), (7, .ptr 1 0), (8, .int .i64 ((i8 + 1) : Int))], [(0, .box (TPrefix.c p1)), (1, .box [.own 2 6 0 c46b.l.length, .own 3 1 0 c46b.free.length, .int .i64 c46b.root, .int .i64 c46b.n]), (2, .row 6 69 (c46b.l.map TNode.c)), (3, .row 1 3 (c46b.free.map c_i64))], 4⟩ (by omega) (Conv.keep [0, 1, 4, 5] [] [0, 2, 4, 7, 8] rfl rfl (viewE_cons rfl rfl (viewE_cons rfl rfl (viewE_cons rfl rfl (viewE_cons rfl rfl (viewE_cons rfl rfl viewE_nil))))) rfl rfl) ⟨i8 + 1, c46b.root, c46b.n, c46b.l, c46b.free, (by omega), rfl, hL_79, rfl⟩

end Go.Proofs.Ytakallenldpkiaa.Abs
