/- The functions walked: each computes its Lean function (printed by this work's own program gen.py). -/
import Derived.Test.YtakallenldpkiaaSz
import Derived.Test.YtakallenldpkiaaTab
set_option linter.unusedVariables false
set_option linter.unusedSimpArgs false
set_option maxRecDepth 10000
set_option maxHeartbeats 4000000
namespace Go.Proofs.Ytakallenldpkiaa.Abs
open Go

theorem f9_ok  (R : TTrie) (hR : F9_trie_New = R) : FnOk Try.prog 9 [] [] 0 (.ptr 0 0) [(0, .box [.own 1 6 0 R.l.length, .own 2 1 0 R.free.length, .int .i64 R.root, .int .i64 R.n]), (1, .row 6 69 (R.l.map TNode.c)), (2, .row 1 3 (R.free.map c_i64))] 3 := by
 refine FnOk.wk i9 rfl rfl ?_
 unfold F9_trie_New at hR
 change WK _ _ _ [ac9] _ ⟨[], [], 0⟩
 unfold ac9
 refine WK.sr mixed ?_
 refine GX.m rfl ?_
 refine GX.done ?_
 refine WK.sr mixed ?_
 refine GX.q (.agg [.nils, .nils, .int .i64 (-1), .int .i64 0]) ?_
 refine GX.step (v' := .ptr 0 0) (heap' := [(0, .box [.nils, .nils, .int .i64 (-1), .int .i64 0])]) (next' := 1) rfl rfl rfl rfl rfl rfl rfl ?_
 refine GX.m rfl ?_
 refine GX.done ?_
 refine WK.adoptB (id := 0) (j := 0) (sz := 6) (ty := 69) (heap' := [(0, .box [.own 1 6 0 (([] : List TNode)).length, .nils, .int .i64 (-1), .int .i64 0]), (1, .row 6 69 (([] : List TNode).map TNode.c))]) rfl rfl (by decide) (by simp) rfl ?_
 refine WK.adoptB (id := 0) (j := 1) (sz := 1) (ty := 3) (heap' := [(0, .box [.own 1 6 0 (([] : List TNode)).length, .own 2 1 0 (([] : List Int)).length, .int .i64 (-1), .int .i64 0]), (1, .row 6 69 (([] : List TNode).map TNode.c)), (2, .row 1 3 (([] : List Int).map c_i64))]) rfl rfl (by decide) (by simp) rfl ?_
 refine WK.ret ?_
 subst hR
 exact RetQ.ret [0, 1, 2] [] (.inr rfl) rfl rfl rfl rfl rfl .refl rfl

theorem f37_ok (x0 : TNode) (a1 : List TEntry) (R : (List TEntry)) (hR : F37_trie_Trie_Above_1 x0 a1 = some R) : FnOk Try.prog 37 [.agg (TNode.c x0), .ptr 0 0] [(0, .box [.own 1 3 0 a1.length]), (1, .row 3 33 (a1.map TEntry.c))] 2 (.tup []) [(0, .box [.own 2 3 0 R.length]), (2, .row 3 33 (R.map TEntry.c))] 3 := by
 refine FnOk.wk i37 rfl rfl ?_
 unfold F37_trie_Trie_Above_1 at hR
 try dsimp only at hR
 change WK _ _ _ [ac37] _ ⟨[(0, .agg (TNode.c x0)), (1, .ptr 0 0)], [(0, .box [.own 1 3 0 a1.length]), (1, .row 3 33 (a1.map TEntry.c))], 2⟩
 unfold ac37
 refine WK.mvB (id := 0) (j := 0) (heap' := [(0, .box [.own 2 3 0 a1.length]), (2, .row 3 33 (a1.map TEntry.c))]) rfl rfl rfl (by simp) rfl ?_
 refine WK.sr mixed ?_
 refine GX.step (v' := .ptr 3 0) (heap' := [(0, .box [.own 2 3 0 a1.length]), (2, .row 3 33 (a1.map TEntry.c)), (3, .box (TNode.c x0))]) (next' := 4) rfl rfl rfl rfl rfl rfl rfl ?_
 refine GX.done ?_
 refine WK.sr mixed ?_
 refine GX.q (.ptr 3 3) ?_
 refine GX.q (.bool x0.isf) ?_
 refine GX.done ?_
 rcases bool_two (x0.isf) with hb1 | hb1
 ·rw [hb1]; first | replace hR := cond_f hb1 hR | (try simp only [hb1, bb] at hR)
  refine WK.condF rfl ?_
  refine WK.skip ?_
  refine WK.nil ?_
  obtain rfl := Option.some.inj hR
  exact RetQ.ret [0, 1, 2] [] (.inl rfl) rfl rfl rfl rfl rfl .refl rfl
 ·rw [hb1]; first | replace hR := cond_t hb1 hR | (try simp only [hb1, bb] at hR)
  refine WK.condT rfl ?_
  refine WK.regx mixed ?_
  refine GX.q (.own 2 3 0 a1.length) ?_
  refine GX.q (.ptr 3 0) ?_
  refine GX.q (.agg [.int .u32 x0.p.A, .int .i64 x0.p.N]) ?_
  refine GX.q (.ptr 3 2) ?_
  refine GX.q (.int .i64 x0.v) ?_
  refine GX.q (.agg [.int .u32 x0.p.A, .int .i64 x0.p.N, .int .i64 x0.v]) ?_
  refine GX.step (v' := .own 4 3 0 (([(⟨x0.p, x0.v⟩ : TEntry)] : List TEntry)).length) (heap' := [(0, .box [.own 2 3 0 a1.length]), (2, .row 3 33 (a1.map TEntry.c)), (3, .box (TNode.c x0)), (4, .row 3 33 (([(⟨x0.p, x0.v⟩ : TEntry)] : List TEntry).map TEntry.c))]) (next' := 5) rfl rfl rfl rfl rfl rfl rfl ?_
  rcases bool_two (decide (a1.length < 1099511627776)) with hg2 | hg2
  ·simp only [hg2, bb] at hR
   try dsimp only at hR
   cases hR
  simp only [hg2, bb] at hR
  have hg2_ := of_decide_eq_true hg2
  refine GX.appT (c := TEntry.c) (L := a1) (X := ([(⟨x0.p, x0.v⟩ : TEntry)] : List TEntry)) (heap' := [(0, .box [.own 2 3 0 a1.length]), (3, .box (TNode.c x0)), (4, .row 3 33 (([(⟨x0.p, x0.v⟩ : TEntry)] : List TEntry).map TEntry.c)), (5, .row 3 33 ((a1 ++ ([(⟨x0.p, x0.v⟩ : TEntry)] : List TEntry)).map TEntry.c))]) (next' := 6) rfl rfl rfl rfl (elems_own rfl) (by ((try simp only [List.length_append, List.length_cons, List.length_nil, List.length_map, decide_eq_true_eq, decide_eq_false_iff_not] at *) <;> omega)) (by ((try simp only [List.length_append, List.length_cons, List.length_nil, List.length_map, decide_eq_true_eq, decide_eq_false_iff_not] at *) <;> omega)) rfl rfl rfl rfl ?_
  refine GX.step0 (heap' := [(0, .box [.own 5 3 0 (a1 ++ ([(⟨x0.p, x0.v⟩ : TEntry)] : List TEntry)).length]), (3, .box (TNode.c x0)), (4, .row 3 33 (([(⟨x0.p, x0.v⟩ : TEntry)] : List TEntry).map TEntry.c)), (5, .row 3 33 ((a1 ++ ([(⟨x0.p, x0.v⟩ : TEntry)] : List TEntry)).map TEntry.c))]) (next' := 6) rfl rfl rfl rfl rfl ?_
  refine GX.done ?_
  refine WK.nil ?_
  obtain rfl := Option.some.inj hR
  exact RetQ.ret [0, 1, 5] [] (.inl rfl) rfl rfl rfl rfl rfl .refl rfl

theorem f39_ok (n0 : Int) (R : Bool) (hR : F39_addr_isLong n0 = R) : FnOk Try.prog 39 [.int .i64 n0] [] 0 (.bool R) [] 0 := by
 refine FnOk.wk i39 rfl rfl ?_
 unfold F39_addr_isLong at hR
 change WK _ _ _ [ac39] _ ⟨[(0, .int .i64 n0)], [], 0⟩
 unfold ac39
 refine WK.sr mixed ?_
 refine GX.m rfl ?_
 refine GX.done ?_
 refine WK.sr mixed ?_
 refine GX.m rfl ?_
 refine GX.q (.bool (decide (0 ≤ n0))) ?_
 refine GX.m rfl ?_
 rcases bool_two (decide (0 ≤ n0)) with hb1 | hb1
 ·rw [hb1]; try simp only [hb1, bb] at hR
  iterate 2 refine GX.skip rfl rfl ?_
  refine GX.q (.bool false) ?_
  refine GX.m rfl ?_
  refine GX.done ?_
  refine WK.ret ?_
  subst hR
  exact RetQ.fr [] (.inr rfl) rfl rfl rfl rfl
 ·rw [hb1]; try simp only [hb1, bb] at hR
  refine GX.m rfl ?_
  iterate 2 refine GX.q (.bool (decide (n0 ≤ 32))) ?_
  refine GX.m rfl ?_
  refine GX.done ?_
  refine WK.ret ?_
  subst hR
  exact RetQ.fr [] (.inr rfl) rfl rfl rfl rfl

theorem f40_ok (n0 : Int) (R : Int) (hR : F40_addr_Mask n0 = R) : FnOk Try.prog 40 [.int .i64 n0] [] 0 (.int .u32 R) [] 0 := by
 refine FnOk.wk i40 rfl rfl ?_
 unfold F40_addr_Mask at hR
 change WK _ _ _ [ac40] _ ⟨[(0, .int .i64 n0)], [], 0⟩
 unfold ac40
 refine WK.sr mixed ?_
 refine GX.m rfl ?_
 refine GX.done ?_
 refine WK.sr mixed ?_
 refine GX.m rfl ?_
 refine GX.q (.int .i64 (max_ n0 0)) ?_
 refine GX.q (.int .i64 (min_ (max_ n0 0) 32)) ?_
 refine GX.m rfl ?_
 refine GX.done ?_
 refine WK.sr mixed ?_
 refine GX.m rfl ?_
 refine GX.q (.int .i64 (IntKind.i64.wrap (32 - (min_ (max_ n0 0) 32)))) ?_
 refine GX.shl rfl rfl rfl (by ((try simp only [decide_eq_true_eq, decide_eq_false_iff_not, Bool.not_eq_true, Bool.not_eq_false] at *); first | omega | (rw [wrap64_of (by omega) (by omega)]; omega) | (unfold min_ max_; (repeat' split) <;> first | omega | (rw [wrap64_of (by omega) (by omega)]; omega)))) ?_
 refine GX.q (.int .u32 (IntKind.u32.wrap (shl_ .u64 4294967295 (IntKind.i64.wrap (32 - (min_ (max_ n0 0) 32)))))) ?_
 refine GX.m rfl ?_
 refine GX.done ?_
 refine WK.ret ?_
 subst hR
 exact RetQ.fr [] (.inr rfl) rfl rfl rfl rfl

theorem f30_ok (p0 : TPrefix) (R : Bool) (hR : F30_addr_May p0 = R) : FnOk Try.prog 30 [.agg (TPrefix.c p0)] [] 0 (.bool R) [] 0 := by
 refine FnOk.wk i30 rfl rfl ?_
 unfold F30_addr_May at hR
 change WK _ _ _ [ac30] _ ⟨[(0, .agg (TPrefix.c p0))], [], 0⟩
 unfold ac30
 refine WK.sr mixed ?_
 refine GX.step (v' := .ptr 0 0) (heap' := [(0, .box (TPrefix.c p0))]) (next' := 1) rfl rfl rfl rfl rfl rfl rfl ?_
 refine GX.m rfl ?_
 refine GX.done ?_
 refine WK.seq ?_
 refine WK.drawn mixed ?_
 refine RD.q (.ptr 0 1) ?_
 refine RD.q (.int .i64 p0.N) ?_
 generalize hc5 : F39_addr_isLong p0.N = c5 at hR
 try dsimp only at hR
 refine RD.callp (r := .bool c5) rfl rfl rfl (f39_ok p0.N _ hc5) rfl rfl ?_
 refine RD.m rfl ?_
 rcases bool_two (c5) with hb1 | hb1
 ·rw [hb1]; try simp only [hb1, bb] at hR
  iterate 7 refine RD.skip rfl rfl ?_
  refine RD.q (.bool false) ?_
  refine RD.m rfl ?_
  refine RD.done rfl ?_
  refine WK.ret ?_
  subst hR
  exact RetQ.fr [] (.inr rfl) rfl rfl rfl rfl
 ·rw [hb1]; try simp only [hb1, bb] at hR
  refine RD.q (.ptr 0 0) ?_
  refine RD.q (.int .u32 p0.A) ?_
  refine RD.q (.ptr 0 1) ?_
  refine RD.q (.int .i64 p0.N) ?_
  generalize hc11 : F40_addr_Mask p0.N = c11 at hR
  try dsimp only at hR
  refine RD.callp (r := .int .u32 c11) rfl rfl rfl (f40_ok p0.N _ hc11) rfl rfl ?_
  refine RD.q (.int .u32 (bit_andNot .u32 p0.A c11)) ?_
  iterate 2 refine RD.q (.bool (decide (bit_andNot .u32 p0.A c11 = 0))) ?_
  refine RD.m rfl ?_
  refine RD.done rfl ?_
  refine WK.ret ?_
  subst hR
  exact RetQ.fr [] (.inr rfl) rfl rfl rfl rfl

theorem f46_ok (p0 : TPrefix) (a1 : Int) (R : Bool) (hR : F46_addr_Has p0 a1 = R) : FnOk Try.prog 46 [.agg (TPrefix.c p0), .int .u32 a1] [] 0 (.bool R) [] 0 := by
 refine FnOk.wk i46 rfl rfl ?_
 unfold F46_addr_Has at hR
 change WK _ _ _ [ac46] _ ⟨[(0, .agg (TPrefix.c p0)), (1, .int .u32 a1)], [], 0⟩
 unfold ac46
 refine WK.sr mixed ?_
 refine GX.step (v' := .ptr 0 0) (heap' := [(0, .box (TPrefix.c p0))]) (next' := 1) rfl rfl rfl rfl rfl rfl rfl ?_
 refine GX.m rfl ?_
 refine GX.done ?_
 refine WK.seq ?_
 refine WK.drawn mixed ?_
 refine RD.q (.agg (TPrefix.c p0)) ?_
 generalize hc6 : F30_addr_May p0 = c6 at hR
 try dsimp only at hR
 refine RD.callp (r := .bool c6) rfl rfl rfl (f30_ok p0 _ hc6) rfl rfl ?_
 refine RD.m rfl ?_
 rcases bool_two (c6) with hb1 | hb1
 ·rw [hb1]; try simp only [hb1, bb] at hR
  iterate 8 refine RD.skip rfl rfl ?_
  refine RD.q (.bool false) ?_
  refine RD.m rfl ?_
  refine RD.done rfl ?_
  refine WK.ret ?_
  subst hR
  exact RetQ.fr [] (.inr rfl) rfl rfl rfl rfl
 ·rw [hb1]; try simp only [hb1, bb] at hR
  refine RD.m rfl ?_
  refine RD.q (.ptr 0 1) ?_
  refine RD.q (.int .i64 p0.N) ?_
  generalize hc11 : F40_addr_Mask p0.N = c11 at hR
  try dsimp only at hR
  refine RD.callp (r := .int .u32 c11) rfl rfl rfl (f40_ok p0.N _ hc11) rfl rfl ?_
  refine RD.q (.int .u32 (bit_and .u32 a1 c11)) ?_
  refine RD.q (.ptr 0 0) ?_
  refine RD.q (.int .u32 p0.A) ?_
  iterate 2 refine RD.q (.bool (decide (bit_and .u32 a1 c11 = p0.A))) ?_
  refine RD.m rfl ?_
  refine RD.done rfl ?_
  refine WK.ret ?_
  subst hR
  exact RetQ.fr [] (.inr rfl) rfl rfl rfl rfl

theorem f34_ok (p0 : TPrefix) (q1 : TPrefix) (R : Bool) (hR : F34_addr_Covers p0 q1 = R) : FnOk Try.prog 34 [.agg (TPrefix.c p0), .agg (TPrefix.c q1)] [] 0 (.bool R) [] 0 := by
 refine FnOk.wk i34 rfl rfl ?_
 unfold F34_addr_Covers at hR
 change WK _ _ _ [ac34] _ ⟨[(0, .agg (TPrefix.c p0)), (1, .agg (TPrefix.c q1))], [], 0⟩
 unfold ac34
 refine WK.sr mixed ?_
 refine GX.step (v' := .ptr 0 0) (heap' := [(0, .box (TPrefix.c p0))]) (next' := 1) rfl rfl rfl rfl rfl rfl rfl ?_
 refine GX.step (v' := .ptr 1 0) (heap' := [(0, .box (TPrefix.c p0)), (1, .box (TPrefix.c q1))]) (next' := 2) rfl rfl rfl rfl rfl rfl rfl ?_
 refine GX.m rfl ?_
 refine GX.done ?_
 refine WK.sr mixed ?_
 refine GX.q (.agg (TPrefix.c q1)) ?_
 generalize hc6 : F30_addr_May q1 = c6 at hR
 try dsimp only at hR
 refine GX.callp (r := .bool c6) rfl rfl rfl (f30_ok q1 _ hc6) rfl rfl ?_
 refine GX.m rfl ?_
 rcases bool_two (c6) with hb1 | hb1
 ·rw [hb1]; try simp only [hb1, bb] at hR
  iterate 5 refine GX.skip rfl rfl ?_
  refine GX.q (.bool false) ?_
  refine GX.m rfl ?_
  iterate 4 refine GX.skip rfl rfl ?_
  refine GX.q (.bool false) ?_
  refine GX.m rfl ?_
  refine GX.done ?_
  refine WK.ret ?_
  subst hR
  exact RetQ.fr [] (.inr rfl) rfl rfl rfl rfl
 ·rw [hb1]; try simp only [hb1, bb] at hR
  refine GX.q (.ptr 0 1) ?_
  refine GX.q (.int .i64 p0.N) ?_
  refine GX.q (.ptr 1 1) ?_
  refine GX.q (.int .i64 q1.N) ?_
  iterate 2 refine GX.q (.bool (decide (p0.N ≤ q1.N))) ?_
  refine GX.m rfl ?_
  rcases bool_two (decide (p0.N ≤ q1.N)) with hb2 | hb2
  ·rw [hb2]; try simp only [hb2, bb] at hR
   iterate 4 refine GX.skip rfl rfl ?_
   refine GX.q (.bool false) ?_
   refine GX.m rfl ?_
   refine GX.done ?_
   refine WK.ret ?_
   subst hR
   exact RetQ.fr [] (.inr rfl) rfl rfl rfl rfl
  ·rw [hb2]; try simp only [hb2, bb] at hR
   refine GX.q (.agg (TPrefix.c p0)) ?_
   refine GX.q (.ptr 1 0) ?_
   refine GX.q (.int .u32 q1.A) ?_
   generalize hc18 : F46_addr_Has p0 q1.A = c18 at hR
   try dsimp only at hR
   refine GX.callp (r := .bool c18) rfl rfl rfl (f46_ok p0 q1.A _ hc18) rfl rfl ?_
   refine GX.q (.bool c18) ?_
   refine GX.m rfl ?_
   refine GX.done ?_
   refine WK.ret ?_
   subst hR
   exact RetQ.fr [] (.inr rfl) rfl rfl rfl rfl

theorem f47_ok (a0 : Int) (i1 : Int) (R : Int) (hR : F47_addr_Bit a0 i1 = R) : FnOk Try.prog 47 [.int .u32 a0, .int .i64 i1] [] 0 (.int .i64 R) [] 0 := by
 refine FnOk.wk i47 rfl rfl ?_
 unfold F47_addr_Bit at hR
 change WK _ _ _ [ac47] _ ⟨[(0, .int .u32 a0), (1, .int .i64 i1)], [], 0⟩
 unfold ac47
 refine WK.sr mixed ?_
 refine GX.m rfl ?_
 refine GX.done ?_
 refine WK.seq ?_
 refine WK.sr mixed ?_
 refine GX.m rfl ?_
 refine GX.q (.bool (decide (i1 < 0))) ?_
 refine GX.m rfl ?_
 rcases bool_two (decide (i1 < 0)) with hb1 | hb1
 ·rw [hb1]; try simp only [hb1, bb] at hR
  refine GX.m rfl ?_
  iterate 2 refine GX.q (.bool (decide (32 ≤ i1))) ?_
  refine GX.done ?_
  rcases bool_two (decide (32 ≤ i1)) with hb2 | hb2
  ·rw [hb2]; try simp only [hb2, bb] at hR
   refine WK.condF rfl ?_
   refine WK.skip ?_
   refine WK.sr mixed ?_
   iterate 2 refine GX.m rfl ?_
   refine GX.q (.int .i64 (IntKind.i64.wrap (31 - i1))) ?_
   refine GX.shr rfl rfl rfl (by ((try simp only [decide_eq_true_eq, decide_eq_false_iff_not, Bool.not_eq_true, Bool.not_eq_false] at *); first | omega | (rw [wrap64_of (by omega) (by omega)]; omega) | (unfold min_ max_; (repeat' split) <;> first | omega | (rw [wrap64_of (by omega) (by omega)]; omega)))) ?_
   refine GX.q (.int .u32 (bit_and .u32 (shr_ .u32 a0 (IntKind.i64.wrap (31 - i1))) 1)) ?_
   refine GX.q (.int .i64 (IntKind.i64.wrap (bit_and .u32 (shr_ .u32 a0 (IntKind.i64.wrap (31 - i1))) 1))) ?_
   refine GX.m rfl ?_
   refine GX.done ?_
   refine WK.ret ?_
   subst hR
   exact RetQ.fr [] (.inr rfl) rfl rfl rfl rfl
  ·rw [hb2]; try simp only [hb2, bb] at hR
   refine WK.condT rfl ?_
   refine WK.sr mixed ?_
   refine GX.m rfl ?_
   refine GX.done ?_
   refine WK.ret ?_
   subst hR
   exact RetQ.fr [] (.inr rfl) rfl rfl rfl rfl
 ·rw [hb1]; try simp only [hb1, bb] at hR
  iterate 2 refine GX.skip rfl rfl ?_
  refine GX.q (.bool true) ?_
  refine GX.done ?_
  refine WK.condT rfl ?_
  refine WK.sr mixed ?_
  refine GX.m rfl ?_
  refine GX.done ?_
  refine WK.ret ?_
  subst hR
  exact RetQ.fr [] (.inr rfl) rfl rfl rfl rfl

theorem f43_ok (above0 : TPrefix) (p1 : TPrefix) (R : Int) (hR : F43_trie_side above0 p1 = R) : FnOk Try.prog 43 [.agg (TPrefix.c above0), .agg (TPrefix.c p1)] [] 0 (.int .i64 R) [] 0 := by
 refine FnOk.wk i43 rfl rfl ?_
 unfold F43_trie_side at hR
 change WK _ _ _ [ac43] _ ⟨[(0, .agg (TPrefix.c above0)), (1, .agg (TPrefix.c p1))], [], 0⟩
 unfold ac43
 refine WK.sr mixed ?_
 refine GX.step (v' := .ptr 0 0) (heap' := [(0, .box (TPrefix.c above0))]) (next' := 1) rfl rfl rfl rfl rfl rfl rfl ?_
 refine GX.step (v' := .ptr 1 0) (heap' := [(0, .box (TPrefix.c above0)), (1, .box (TPrefix.c p1))]) (next' := 2) rfl rfl rfl rfl rfl rfl rfl ?_
 refine GX.m rfl ?_
 refine GX.done ?_
 refine WK.sr mixed ?_
 refine GX.q (.ptr 1 0) ?_
 refine GX.q (.int .u32 p1.A) ?_
 refine GX.q (.ptr 0 1) ?_
 refine GX.q (.int .i64 above0.N) ?_
 generalize hc9 : F47_addr_Bit p1.A above0.N = c9 at hR
 try dsimp only at hR
 refine GX.callp (r := .int .i64 c9) rfl rfl rfl (f47_ok p1.A above0.N _ hc9) rfl rfl ?_
 refine GX.m rfl ?_
 refine GX.done ?_
 refine WK.ret ?_
 subst hR
 exact RetQ.fr [] (.inr rfl) rfl rfl rfl rfl

theorem f36_ok (t0 : TTrie) (p1 : TPrefix) (a1_each2 : List TEntry) (R : (List TEntry)) (hR : F36_trie_Trie_down t0 p1 a1_each2 = some R) : FnOk Try.prog 36 [.ptr 0 0, .agg (TPrefix.c p1), .fn 37 [] [.ptr 1 0]] [(0, .box [.own 2 6 0 t0.l.length, .own 3 1 0 t0.free.length, .int .i64 t0.root, .int .i64 t0.n]), (1, .box [.own 4 3 0 a1_each2.length]), (2, .row 6 69 (t0.l.map TNode.c)), (3, .row 1 3 (t0.free.map c_i64)), (4, .row 3 33 (a1_each2.map TEntry.c))] 5 (.tup []) [(0, .box [.own 2 6 0 t0.l.length, .own 3 1 0 t0.free.length, .int .i64 t0.root, .int .i64 t0.n]), (1, .box [.own 5 3 0 R.length]), (2, .row 6 69 (t0.l.map TNode.c)), (3, .row 1 3 (t0.free.map c_i64)), (5, .row 3 33 (R.map TEntry.c))] 6 := by
 refine FnOk.wk i36 rfl rfl ?_
 unfold F36_trie_Trie_down at hR
 try dsimp only at hR
 change WK _ _ _ [ac36] _ ⟨[(0, .ptr 0 0), (1, .agg (TPrefix.c p1)), (2, .fn 37 [] [.ptr 1 0])], [(0, .box [.own 2 6 0 t0.l.length, .own 3 1 0 t0.free.length, .int .i64 t0.root, .int .i64 t0.n]), (1, .box [.own 4 3 0 a1_each2.length]), (2, .row 6 69 (t0.l.map TNode.c)), (3, .row 1 3 (t0.free.map c_i64)), (4, .row 3 33 (a1_each2.map TEntry.c))], 5⟩
 unfold ac36
 refine WK.mvB (id := 1) (j := 0) (heap' := [(0, .box [.own 2 6 0 t0.l.length, .own 3 1 0 t0.free.length, .int .i64 t0.root, .int .i64 t0.n]), (1, .box [.own 5 3 0 a1_each2.length]), (2, .row 6 69 (t0.l.map TNode.c)), (3, .row 1 3 (t0.free.map c_i64)), (5, .row 3 33 (a1_each2.map TEntry.c))]) rfl rfl rfl (by simp) rfl ?_
 refine WK.sr mixed ?_
 refine GX.step (v' := .ptr 6 0) (heap' := [(0, .box [.own 2 6 0 t0.l.length, .own 3 1 0 t0.free.length, .int .i64 t0.root, .int .i64 t0.n]), (1, .box [.own 5 3 0 a1_each2.length]), (2, .row 6 69 (t0.l.map TNode.c)), (3, .row 1 3 (t0.free.map c_i64)), (5, .row 3 33 (a1_each2.map TEntry.c)), (6, .box (TPrefix.c p1))]) (next' := 7) rfl rfl rfl rfl rfl rfl rfl ?_
 refine GX.done ?_
 refine WK.seq ?_
 refine WK.sr mixed ?_
 refine GX.m rfl ?_
 refine GX.q (.bool false) ?_
 refine GX.done ?_
 refine WK.condF rfl ?_
 refine WK.skip ?_
 refine WK.sr mixed ?_
 refine GX.m rfl ?_
 refine GX.q (.ptr 0 0) ?_
 refine GX.q (.ptr 0 2) ?_
 refine GX.q (.int .i64 t0.root) ?_
 refine GX.m rfl ?_
 refine GX.done ?_
 generalize hZ_9 : F36_trie_Trie_down_l1 t0 p1 100 t0.root a1_each2 = Z_9 at hR
 refine WK.forK (fun k s => ∃ (i6 : Int) (row5 : List TEntry), F36_trie_Trie_down_l1 t0 p1 k i6 row5 = Z_9 ∧ s = ⟨[(0, .ptr 0 0), (2, .fn 37 [] [.ptr 1 0]), (4, .ptr 6 0), (6, .int .i64 i6)], [(0, .box [.own 2 6 0 t0.l.length, .own 3 1 0 t0.free.length, .int .i64 t0.root, .int .i64 t0.n]), (1, .box [.own 5 3 0 row5.length]), (2, .row 6 69 (t0.l.map TNode.c)), (3, .row 1 3 (t0.free.map c_i64)), (5, .row 3 33 (row5.map TEntry.c)), (6, .box (TPrefix.c p1))], 7⟩) 100 ⟨⟨[(0, .ptr 0 0), (2, .fn 37 [] [.ptr 1 0]), (4, .ptr 6 0), (6, .int .i64 t0.root)], [(0, .box [.own 2 6 0 t0.l.length, .own 3 1 0 t0.free.length, .int .i64 t0.root, .int .i64 t0.n]), (1, .box [.own 5 3 0 a1_each2.length]), (2, .row 6 69 (t0.l.map TNode.c)), (3, .row 1 3 (t0.free.map c_i64)), (5, .row 3 33 (a1_each2.map TEntry.c)), (6, .box (TPrefix.c p1))], 7⟩, Conv.keepR [0, 1, 2, 3, 4, 5, 6] [] [0, 2, 4, 6] rfl rfl (viewE_cons rfl rfl (viewE_cons rfl rfl (viewE_cons rfl rfl (viewE_cons rfl rfl viewE_nil)))) rfl rfl, t0.root, a1_each2, hZ_9, rfl⟩ ?_
 rintro k9 _ ⟨i6, row5, hL_9, rfl⟩ again_9 out_9 Q_9 hagain_9 hout_9 hQ_9
 rcases k9 with _ | f9
 ·unfold F36_trie_Trie_down_l1 at hL_9
  try dsimp only at hL_9
  subst hL_9
  try dsimp only at hR
  cases hR
 unfold F36_trie_Trie_down_l1 at hL_9; try dsimp only at hL_9
 iterate 2 refine WK.seq ?_
 refine WK.drawn mixed ?_
 refine RD.m rfl ?_
 refine RD.q (.bool (!decide (i6 = (-1)))) ?_
 refine RD.m rfl ?_
 rcases bool_two (decide (i6 = (-1))) with hb10 | hb10
 ·rw [hb10]; try simp only [hb10, bb] at hL_9
  refine RD.m rfl ?_
  iterate 2 refine RD.q (.ptr 0 0) ?_
  refine RD.q (.own 2 6 0 t0.l.length) ?_
  refine RD.m rfl ?_
  generalize hx910 : getI t0.l i6 = x910 at hL_9
  rcases x910 with _ | x910
  ·try dsimp only at hL_9
   subst hL_9
   try dsimp only at hR
   cases hR
  try dsimp only at hL_9
  obtain ⟨hx9100, hx910j, hx910l, hx910⟩ := getI_some hx910
  refine RD.pure (v' := .eptr 2 6 i6.toNat 0) rfl rfl rfl (core_idxoT (c := TNode.c) (L := t0.l) (j := i6.toNat) rfl hx910j hx910l (by exact Nat.le_refl _)) rfl ?_
  refine RD.pure (v' := .eptr 2 6 i6.toNat 0) rfl rfl rfl (core_fldT (c := TNode.c) (L := t0.l) rfl (by omega) rfl) rfl ?_
  refine RD.pure (v' := .agg [.int .u32 x910.p.A, .int .i64 x910.p.N]) rfl rfl rfl (core_loaT (c := TNode.c) (L := t0.l) (x := x910) rfl hx910 rfl) rfl ?_
  refine RD.q (.agg (TPrefix.c p1)) ?_
  generalize hc26 : F34_addr_Covers x910.p p1 = c26 at hL_9
  try dsimp only at hL_9
  refine RD.callp (r := .bool c26) rfl rfl rfl (f34_ok x910.p p1 _ hc26) rfl rfl ?_
  refine RD.q (.bool c26) ?_
  refine RD.done rfl ?_
  rcases bool_two (c26) with hb12 | hb12
  ·rw [hb12]; try simp only [hb12, bb] at hL_9
   refine WK.condF rfl ?_
   refine WK.exit ?_
   refine QF.exit (hout_9 _ ?_)
   subst hL_9
   try dsimp only [cond_true, cond_false] at hR
   refine WK.nil ?_
   obtain rfl := Option.some.inj hR
   exact RetQ.ret [0, 1, 2, 3, 4, 5] [] (.inl rfl) rfl rfl rfl rfl rfl .refl rfl
  ·rw [hb12]; try simp only [hb12, bb] at hL_9
   refine WK.condT rfl ?_
   refine WK.skip ?_
   refine WK.blockK (fun _ hK13 => ?_)
   refine WK.sr mixed ?_
   refine GX.m rfl ?_
   iterate 2 refine GX.q (.ptr 0 0) ?_
   refine GX.q (.own 2 6 0 t0.l.length) ?_
   refine GX.m rfl ?_
   refine GX.pure (v' := .eptr 2 6 i6.toNat 0) rfl rfl rfl (core_idxoT (c := TNode.c) (L := t0.l) (j := i6.toNat) rfl hx910j hx910l (by exact Nat.le_refl _)) rfl ?_
   refine GX.pure (v' := .agg (TNode.c x910)) rfl rfl rfl (core_loaT (c := TNode.c) (L := t0.l) (x := x910) rfl hx910 rfl) rfl ?_
   refine GX.step (v' := .ptr 7 0) (heap' := [(0, .box [.own 2 6 0 t0.l.length, .own 3 1 0 t0.free.length, .int .i64 t0.root, .int .i64 t0.n]), (1, .box [.own 5 3 0 row5.length]), (2, .row 6 69 (t0.l.map TNode.c)), (3, .row 1 3 (t0.free.map c_i64)), (5, .row 3 33 (row5.map TEntry.c)), (6, .box (TPrefix.c p1)), (7, .box [.int .u32 0, .int .i64 0, .int .i64 0, .bool false, .int .i64 0, .int .i64 0])]) (next' := 8) rfl rfl rfl rfl rfl rfl rfl ?_
   refine GX.step0 (heap' := [(0, .box [.own 2 6 0 t0.l.length, .own 3 1 0 t0.free.length, .int .i64 t0.root, .int .i64 t0.n]), (1, .box [.own 5 3 0 row5.length]), (2, .row 6 69 (t0.l.map TNode.c)), (3, .row 1 3 (t0.free.map c_i64)), (5, .row 3 33 (row5.map TEntry.c)), (6, .box (TPrefix.c p1)), (7, .box (TNode.c x910))]) (next' := 8) rfl rfl rfl rfl rfl ?_
   refine GX.done ?_
   refine WK.sr mixed ?_
   refine GX.m rfl ?_
   refine GX.q (.agg (TNode.c x910)) ?_
   generalize hc37 : F37_trie_Trie_Above_1 x910 row5 = c37 at hL_9
   rcases c37 with _ | c37
   ·try dsimp only at hL_9
    subst hL_9
    try dsimp only at hR
    cases hR
   try dsimp only at hL_9
   try dsimp only at hL_9
   refine GX.callvx (r' := .tup []) (heap' := [(0, .box [.own 2 6 0 t0.l.length, .own 3 1 0 t0.free.length, .int .i64 t0.root, .int .i64 t0.n]), (1, .box [.own 8 3 0 c37.length]), (2, .row 6 69 (t0.l.map TNode.c)), (3, .row 1 3 (t0.free.map c_i64)), (6, .box (TPrefix.c p1)), (7, .box (TNode.c x910)), (8, .row 3 33 (c37.map TEntry.c))]) (next' := 9) [1, 5] [] rfl rfl rfl rfl rfl rfl (f37_ok x910 row5 _ hc37) (.inl rfl) rfl rfl rfl ?_
   refine GX.done ?_
   refine WK.seq ?_
   refine WK.sr mixed ?_
   refine GX.q (.ptr 7 0) ?_
   refine GX.q (.ptr 7 1) ?_
   refine GX.q (.int .i64 x910.p.N) ?_
   refine GX.q (.ptr 6 1) ?_
   refine GX.q (.int .i64 p1.N) ?_
   refine GX.q (.bool (decide (x910.p.N = p1.N))) ?_
   refine GX.done ?_
   rcases bool_two (decide (x910.p.N = p1.N)) with hb15 | hb15
   ·rw [hb15]; try simp only [hb15, bb] at hL_9
    refine WK.condF rfl ?_
    refine WK.skip ?_
    refine WK.regx mixed ?_
    refine GX.q (.ptr 7 0) ?_
    refine GX.q (.agg [.int .u32 x910.p.A, .int .i64 x910.p.N]) ?_
    refine GX.q (.agg (TPrefix.c p1)) ?_
    generalize hc47 : F43_trie_side x910.p p1 = c47 at hL_9
    try dsimp only at hL_9
    refine GX.callp (r := .int .i64 c47) rfl rfl rfl (f43_ok x910.p p1 _ hc47) rfl rfl ?_
    refine GX.q (.ptr 7 4) ?_
    rcases Bool.eq_false_or_eq_true (decide (c47 = 0)) with hk16b | hk16b
    ·simp only [hk16b, bb] at hL_9
     have hk16 := of_decide_eq_true hk16b
     refine GX.pure (v' := .ptr 7 4) rfl rfl rfl (core_idxAAp (k := 0) rfl hk16 rfl rfl) rfl ?_
     refine GX.q (.int .i64 x910.kids.e0) ?_
     refine GX.m rfl ?_
     refine GX.done ?_
     refine WK.nil (QF.normal (hK13 _ ?_))
     refine WK.nil (QF.normal ?_)
     exact hagain_9 _ f9 ⟨[(0, .ptr 0 0), (2, .fn 37 [] [.ptr 1 0]), (4, .ptr 6 0), (6, .int .i64 x910.kids.e0)], [(0, .box [.own 2 6 0 t0.l.length, .own 3 1 0 t0.free.length, .int .i64 t0.root, .int .i64 t0.n]), (1, .box [.own 5 3 0 c37.length]), (2, .row 6 69 (t0.l.map TNode.c)), (3, .row 1 3 (t0.free.map c_i64)), (5, .row 3 33 (c37.map TEntry.c)), (6, .box (TPrefix.c p1))], 7⟩ (Nat.lt_succ_self _) (Conv.keepR [0, 1, 2, 3, 4, 8, 6] [] [0, 2, 4, 6] rfl rfl (viewE_cons rfl rfl (viewE_cons rfl rfl (viewE_cons rfl rfl (viewE_cons rfl rfl viewE_nil)))) rfl rfl) ⟨x910.kids.e0, c37, hL_9, rfl⟩
    simp only [hk16b, bb] at hL_9
    rcases Bool.eq_false_or_eq_true (decide (c47 = 1)) with hk17b | hk17b
    ·simp only [hk17b, bb] at hL_9
     have hk17 := of_decide_eq_true hk17b
     refine GX.pure (v' := .ptr 7 5) rfl rfl rfl (core_idxAAp (k := 1) rfl hk17 rfl rfl) rfl ?_
     refine GX.q (.int .i64 x910.kids.e1) ?_
     refine GX.m rfl ?_
     refine GX.done ?_
     refine WK.nil (QF.normal (hK13 _ ?_))
     refine WK.nil (QF.normal ?_)
     exact hagain_9 _ f9 ⟨[(0, .ptr 0 0), (2, .fn 37 [] [.ptr 1 0]), (4, .ptr 6 0), (6, .int .i64 x910.kids.e1)], [(0, .box [.own 2 6 0 t0.l.length, .own 3 1 0 t0.free.length, .int .i64 t0.root, .int .i64 t0.n]), (1, .box [.own 5 3 0 c37.length]), (2, .row 6 69 (t0.l.map TNode.c)), (3, .row 1 3 (t0.free.map c_i64)), (5, .row 3 33 (c37.map TEntry.c)), (6, .box (TPrefix.c p1))], 7⟩ (Nat.lt_succ_self _) (Conv.keepR [0, 1, 2, 3, 4, 8, 6] [] [0, 2, 4, 6] rfl rfl (viewE_cons rfl rfl (viewE_cons rfl rfl (viewE_cons rfl rfl (viewE_cons rfl rfl viewE_nil)))) rfl rfl) ⟨x910.kids.e1, c37, hL_9, rfl⟩
    simp only [hk17b, bb] at hL_9
    try dsimp only at hL_9
    subst hL_9
    try dsimp only at hR
    cases hR
   ·rw [hb15]; try simp only [hb15, bb] at hL_9
    refine WK.condT rfl ?_
    refine WK.ret ?_
    refine QF.ret ?_
    refine QF.ret (hQ_9 _ _ ?_)
    subst hL_9
    try dsimp only at hR
    obtain rfl := Option.some.inj hR
    exact RetQ.ret [0, 1, 2, 3, 4, 8] [] (.inr rfl) rfl rfl rfl rfl rfl .refl rfl
 ·rw [hb10]; try simp only [hb10, bb] at hL_9
  iterate 10 refine RD.skip rfl rfl ?_
  refine RD.q (.bool false) ?_
  refine RD.done rfl ?_
  refine WK.condF rfl ?_
  refine WK.exit ?_
  refine QF.exit (hout_9 _ ?_)
  subst hL_9
  try dsimp only [cond_true, cond_false] at hR
  refine WK.nil ?_
  obtain rfl := Option.some.inj hR
  exact RetQ.ret [0, 1, 2, 3, 4, 5] [] (.inl rfl) rfl rfl rfl rfl rfl .refl rfl

theorem f22_ok (t0 : TTrie) (p1 : TPrefix) (R : (List TEntry)) (hR : F22_trie_Trie_Above t0 p1 = some R) : FnOk Try.prog 22 [.ptr 0 0, .agg (TPrefix.c p1)] [(0, .box [.own 1 6 0 t0.l.length, .own 2 1 0 t0.free.length, .int .i64 t0.root, .int .i64 t0.n]), (1, .row 6 69 (t0.l.map TNode.c)), (2, .row 1 3 (t0.free.map c_i64))] 3 (.ro 3 (R.map TEntry.c)) [(0, .box [.own 1 6 0 t0.l.length, .own 2 1 0 t0.free.length, .int .i64 t0.root, .int .i64 t0.n]), (1, .row 6 69 (t0.l.map TNode.c)), (2, .row 1 3 (t0.free.map c_i64))] 3 := by
 refine FnOk.wk i22 rfl rfl ?_
 unfold F22_trie_Trie_Above at hR
 try dsimp only at hR
 change WK _ _ _ [ac22] _ ⟨[(0, .ptr 0 0), (1, .agg (TPrefix.c p1))], [(0, .box [.own 1 6 0 t0.l.length, .own 2 1 0 t0.free.length, .int .i64 t0.root, .int .i64 t0.n]), (1, .row 6 69 (t0.l.map TNode.c)), (2, .row 1 3 (t0.free.map c_i64))], 3⟩
 unfold ac22
 refine WK.sr mixed ?_
 refine GX.step (v' := .ptr 3 0) (heap' := [(0, .box [.own 1 6 0 t0.l.length, .own 2 1 0 t0.free.length, .int .i64 t0.root, .int .i64 t0.n]), (1, .row 6 69 (t0.l.map TNode.c)), (2, .row 1 3 (t0.free.map c_i64)), (3, .box (TPrefix.c p1))]) (next' := 4) rfl rfl rfl rfl rfl rfl rfl ?_
 refine GX.m rfl ?_
 refine GX.done ?_
 refine WK.sr mixed ?_
 refine GX.step (v' := .ptr 4 0) (heap' := [(0, .box [.own 1 6 0 t0.l.length, .own 2 1 0 t0.free.length, .int .i64 t0.root, .int .i64 t0.n]), (1, .row 6 69 (t0.l.map TNode.c)), (2, .row 1 3 (t0.free.map c_i64)), (3, .box (TPrefix.c p1)), (4, .box [.nils])]) (next' := 5) rfl rfl rfl rfl rfl rfl rfl ?_
 refine GX.done ?_
 refine WK.seq ?_
 refine WK.adoptB (id := 4) (j := 0) (sz := 3) (ty := 33) (heap' := [(0, .box [.own 1 6 0 t0.l.length, .own 2 1 0 t0.free.length, .int .i64 t0.root, .int .i64 t0.n]), (1, .row 6 69 (t0.l.map TNode.c)), (2, .row 1 3 (t0.free.map c_i64)), (3, .box (TPrefix.c p1)), (4, .box [.own 5 3 0 (([] : List TEntry)).length]), (5, .row 3 33 (([] : List TEntry).map TEntry.c))]) rfl rfl (by decide) (by simp) rfl ?_
 refine WK.regx mixed ?_
 refine GX.m rfl ?_
 refine GX.q (.agg (TPrefix.c p1)) ?_
 refine GX.q (.fn 37 [] [.ptr 4 0]) ?_
 generalize hc9 : F36_trie_Trie_down t0 p1 ([] : List TEntry) = c9 at hR
 rcases c9 with _ | c9
 ·try dsimp only at hR
  cases hR
 try dsimp only at hR
 try dsimp only at hR
 refine GX.callx (r' := .tup []) (heap' := [(0, .box [.own 1 6 0 t0.l.length, .own 2 1 0 t0.free.length, .int .i64 t0.root, .int .i64 t0.n]), (1, .row 6 69 (t0.l.map TNode.c)), (2, .row 1 3 (t0.free.map c_i64)), (3, .box (TPrefix.c p1)), (4, .box [.own 6 3 0 c9.length]), (6, .row 3 33 (c9.map TEntry.c))]) (next' := 7) [0, 4, 1, 2, 5] [] rfl rfl rfl rfl rfl rfl (f36_ok t0 p1 ([] : List TEntry) _ hc9) (.inl rfl) rfl rfl rfl ?_
 refine GX.done ?_
 refine WK.sr mixed ?_
 refine GX.q (.own 6 3 0 c9.length) ?_
 refine GX.m rfl ?_
 refine GX.done ?_
 refine WK.ret ?_
 obtain rfl := Option.some.inj hR
 exact RetQ.ret [0, 1, 2] [6] (.inr rfl) rfl rfl rfl rfl (viewGo_cons (view_rowT rfl rfl) viewGo_nil) .refl rfl

theorem f25_ok (t0 : TTrie) (p1 : TPrefix) (R : Int × Bool) (hR : F25_trie_Trie_Get t0 p1 = some R) : FnOk Try.prog 25 [.ptr 0 0, .agg (TPrefix.c p1)] [(0, .box [.own 1 6 0 t0.l.length, .own 2 1 0 t0.free.length, .int .i64 t0.root, .int .i64 t0.n]), (1, .row 6 69 (t0.l.map TNode.c)), (2, .row 1 3 (t0.free.map c_i64))] 3 (.tup [.int .i64 R.1, .bool R.2]) [(0, .box [.own 1 6 0 t0.l.length, .own 2 1 0 t0.free.length, .int .i64 t0.root, .int .i64 t0.n]), (1, .row 6 69 (t0.l.map TNode.c)), (2, .row 1 3 (t0.free.map c_i64))] 3 := by
 refine FnOk.wk i25 rfl rfl ?_
 unfold F25_trie_Trie_Get at hR
 try dsimp only at hR
 change WK _ _ _ [ac25] _ ⟨[(0, .ptr 0 0), (1, .agg (TPrefix.c p1))], [(0, .box [.own 1 6 0 t0.l.length, .own 2 1 0 t0.free.length, .int .i64 t0.root, .int .i64 t0.n]), (1, .row 6 69 (t0.l.map TNode.c)), (2, .row 1 3 (t0.free.map c_i64))], 3⟩
 unfold ac25
 refine WK.sr mixed ?_
 refine GX.step (v' := .ptr 3 0) (heap' := [(0, .box [.own 1 6 0 t0.l.length, .own 2 1 0 t0.free.length, .int .i64 t0.root, .int .i64 t0.n]), (1, .row 6 69 (t0.l.map TNode.c)), (2, .row 1 3 (t0.free.map c_i64)), (3, .box (TPrefix.c p1))]) (next' := 4) rfl rfl rfl rfl rfl rfl rfl ?_
 iterate 2 refine GX.m rfl ?_
 refine GX.done ?_
 refine WK.sr mixed ?_
 refine GX.m rfl ?_
 refine GX.q (.agg (TPrefix.c p1)) ?_
 generalize hc9 : F22_trie_Trie_Above t0 p1 = c9 at hR
 rcases c9 with _ | c9
 ·try dsimp only at hR
  cases hR
 try dsimp only at hR
 try dsimp only at hR
 refine GX.callx (r' := .ro 3 (c9.map TEntry.c)) (heap' := [(0, .box [.own 1 6 0 t0.l.length, .own 2 1 0 t0.free.length, .int .i64 t0.root, .int .i64 t0.n]), (1, .row 6 69 (t0.l.map TNode.c)), (2, .row 1 3 (t0.free.map c_i64)), (3, .box (TPrefix.c p1))]) (next' := 4) [0, 1, 2] [] rfl rfl rfl rfl rfl rfl (f22_ok t0 p1 _ hc9) (.inl rfl) rfl rfl rfl ?_
 refine GX.m rfl ?_
 refine GX.done ?_
 iterate 2 refine WK.seq ?_
 refine WK.drawn mixed ?_
 refine RD.m rfl ?_
 refine RD.pure (v' := .int .i64 (c9.length : Int)) rfl rfl rfl rfl (len_map _ _) ?_
 refine RD.q (.bool (decide ((c9.length : Int) = 0))) ?_
 refine RD.m rfl ?_
 rcases bool_two (decide ((c9.length : Int) = 0)) with hb2 | hb2
 ·rw [hb2]; first | replace hR := cond_f hb2 hR | (try simp only [hb2, bb] at hR)
  iterate 2 refine RD.m rfl ?_
  refine RD.pure (v' := .int .i64 (c9.length : Int)) rfl rfl rfl rfl (len_map _ _) ?_
  refine RD.q (.int .i64 (IntKind.i64.wrap ((c9.length : Int) - 1))) ?_
  generalize hx902 : getI c9 (IntKind.i64.wrap ((c9.length : Int) - 1)) = x902 at hR
  rcases x902 with _ | x902
  ·try dsimp only at hR
   cases hR
  try dsimp only at hR
  obtain ⟨hx9020, hx902j, hx902l, hx902⟩ := getI_some hx902
  refine RD.idxT (c := TEntry.c) (x := x902) rfl rfl rfl hx9020 hx902 ?_
  refine RD.q (.rptr (TEntry.c x902)) ?_
  refine RD.q (.agg [.int .u32 x902.P.A, .int .i64 x902.P.N]) ?_
  refine RD.q (.agg (TPrefix.c p1)) ?_
  iterate 2 refine RD.q (.bool (!(decide (x902.P.A = p1.A) && (decide (x902.P.N = p1.N) && true)))) ?_
  refine RD.done rfl ?_
  rcases bool_two (decide (x902.P.A = p1.A) && (decide (x902.P.N = p1.N) && true)) with hb4 | hb4
  ·rw [hb4]; first | replace hR := cond_f hb4 hR | (try simp only [hb4, bb] at hR)
   refine WK.condT rfl ?_
   refine WK.sr mixed ?_
   iterate 2 refine GX.m rfl ?_
   refine GX.done ?_
   refine WK.ret ?_
   obtain rfl := Option.some.inj hR
   exact RetQ.ret [0, 1, 2] [] (.inr rfl) rfl rfl rfl rfl rfl .refl rfl
  ·rw [hb4]; first | replace hR := cond_t hb4 hR | (try simp only [hb4, bb] at hR)
   refine WK.condF rfl ?_
   refine WK.skip ?_
   refine WK.sr mixed ?_
   iterate 2 refine GX.m rfl ?_
   refine GX.pure (v' := .int .i64 (c9.length : Int)) rfl rfl rfl rfl (len_map _ _) ?_
   refine GX.q (.int .i64 (IntKind.i64.wrap ((c9.length : Int) - 1))) ?_
   refine GX.idxT (c := TEntry.c) (x := x902) rfl rfl rfl hx9020 hx902 ?_
   refine GX.q (.rptr [.int .i64 x902.V]) ?_
   refine GX.q (.int .i64 x902.V) ?_
   iterate 2 refine GX.m rfl ?_
   refine GX.done ?_
   refine WK.ret ?_
   obtain rfl := Option.some.inj hR
   exact RetQ.ret [0, 1, 2] [] (.inr rfl) rfl rfl rfl rfl rfl .refl rfl
 ·rw [hb2]; first | replace hR := cond_t hb2 hR | (try simp only [hb2, bb] at hR)
  iterate 9 refine RD.skip rfl rfl ?_
  refine RD.q (.bool true) ?_
  refine RD.done rfl ?_
  refine WK.condT rfl ?_
  refine WK.sr mixed ?_
  iterate 2 refine GX.m rfl ?_
  refine GX.done ?_
  refine WK.ret ?_
  obtain rfl := Option.some.inj hR
  exact RetQ.ret [0, 1, 2] [] (.inr rfl) rfl rfl rfl rfl rfl .refl rfl

theorem f41_ok (t0 : TTrie) (x1 : TNode) (R : Int × TTrie) (hR : F41_trie_Trie_add t0 x1 = some R) : FnOk Try.prog 41 [.ptr 0 0, .agg (TNode.c x1)] [(0, .box [.own 1 6 0 t0.l.length, .own 2 1 0 t0.free.length, .int .i64 t0.root, .int .i64 t0.n]), (1, .row 6 69 (t0.l.map TNode.c)), (2, .row 1 3 (t0.free.map c_i64))] 3 (.int .i64 R.1) [(0, .box [.own 3 6 0 R.2.l.length, .own 4 1 0 R.2.free.length, .int .i64 R.2.root, .int .i64 R.2.n]), (3, .row 6 69 (R.2.l.map TNode.c)), (4, .row 1 3 (R.2.free.map c_i64))] 5 := by
 refine FnOk.wk i41 rfl rfl ?_
 unfold F41_trie_Trie_add at hR
 try dsimp only at hR
 change WK _ _ _ [ac41] _ ⟨[(0, .ptr 0 0), (1, .agg (TNode.c x1))], [(0, .box [.own 1 6 0 t0.l.length, .own 2 1 0 t0.free.length, .int .i64 t0.root, .int .i64 t0.n]), (1, .row 6 69 (t0.l.map TNode.c)), (2, .row 1 3 (t0.free.map c_i64))], 3⟩
 unfold ac41
 refine WK.mvB (id := 0) (j := 0) (heap' := [(0, .box [.own 3 6 0 t0.l.length, .own 2 1 0 t0.free.length, .int .i64 t0.root, .int .i64 t0.n]), (2, .row 1 3 (t0.free.map c_i64)), (3, .row 6 69 (t0.l.map TNode.c))]) rfl rfl rfl (by simp) rfl ?_
 refine WK.mvB (id := 0) (j := 1) (heap' := [(0, .box [.own 3 6 0 t0.l.length, .own 4 1 0 t0.free.length, .int .i64 t0.root, .int .i64 t0.n]), (3, .row 6 69 (t0.l.map TNode.c)), (4, .row 1 3 (t0.free.map c_i64))]) rfl rfl rfl (by simp) rfl ?_
 refine WK.sr mixed ?_
 refine GX.step (v' := .ptr 5 0) (heap' := [(0, .box [.own 3 6 0 t0.l.length, .own 4 1 0 t0.free.length, .int .i64 t0.root, .int .i64 t0.n]), (3, .row 6 69 (t0.l.map TNode.c)), (4, .row 1 3 (t0.free.map c_i64)), (5, .box (TNode.c x1))]) (next' := 6) rfl rfl rfl rfl rfl rfl rfl ?_
 refine GX.m rfl ?_
 refine GX.done ?_
 refine WK.seq ?_
 refine WK.sr mixed ?_
 refine GX.m rfl ?_
 refine GX.q (.ptr 0 0) ?_
 refine GX.q (.ptr 0 1) ?_
 refine GX.q (.own 4 1 0 t0.free.length) ?_
 refine GX.q (.int .i64 (t0.free.length : Int)) ?_
 refine GX.m rfl ?_
 refine GX.done ?_
 refine WK.sr mixed ?_
 refine GX.m rfl ?_
 refine GX.q (.bool (decide (0 < (t0.free.length : Int)))) ?_
 refine GX.done ?_
 rcases bool_two (decide (0 < (t0.free.length : Int))) with hb1 | hb1
 ·rw [hb1]; first | replace hR := cond_f hb1 hR | (try simp only [hb1, bb] at hR)
  refine WK.condF rfl ?_
  refine WK.skip ?_
  refine WK.seq ?_
  refine WK.drawn mixed ?_
  iterate 2 refine RD.m rfl ?_
  iterate 2 refine RD.q (.ptr 0 0) ?_
  refine RD.q (.own 3 6 0 t0.l.length) ?_
  refine RD.q (.agg (TNode.c x1)) ?_
  refine RD.step (v' := .own 6 6 0 (([x1] : List TNode)).length) (heap' := [(0, .box [.own 3 6 0 t0.l.length, .own 4 1 0 t0.free.length, .int .i64 t0.root, .int .i64 t0.n]), (3, .row 6 69 (t0.l.map TNode.c)), (4, .row 1 3 (t0.free.map c_i64)), (5, .box (TNode.c x1)), (6, .row 6 69 (([x1] : List TNode).map TNode.c))]) (next' := 7) rfl rfl rfl rfl rfl rfl rfl ?_
  rcases bool_two (decide (t0.l.length < 1099511627776)) with hg2 | hg2
  ·simp only [hg2, bb] at hR
   try dsimp only at hR
   cases hR
  simp only [hg2, bb] at hR
  have hg2_ := of_decide_eq_true hg2
  refine RD.appT (c := TNode.c) (L := t0.l) (X := ([x1] : List TNode)) (heap' := [(0, .box [.own 3 6 0 t0.l.length, .own 4 1 0 t0.free.length, .int .i64 t0.root, .int .i64 t0.n]), (4, .row 1 3 (t0.free.map c_i64)), (5, .box (TNode.c x1)), (6, .row 6 69 (([x1] : List TNode).map TNode.c)), (7, .row 6 69 ((t0.l ++ ([x1] : List TNode)).map TNode.c))]) (next' := 8) rfl rfl rfl rfl (elems_own rfl) (by ((try simp only [List.length_append, List.length_cons, List.length_nil, List.length_map, decide_eq_true_eq, decide_eq_false_iff_not] at *) <;> omega)) (by ((try simp only [List.length_append, List.length_cons, List.length_nil, List.length_map, decide_eq_true_eq, decide_eq_false_iff_not] at *) <;> omega)) rfl rfl rfl rfl ?_
  iterate 2 refine RD.q (.ptr 0 0) ?_
  refine RD.step0 (heap' := [(0, .box [.own 7 6 0 (t0.l ++ ([x1] : List TNode)).length, .own 4 1 0 t0.free.length, .int .i64 t0.root, .int .i64 t0.n]), (4, .row 1 3 (t0.free.map c_i64)), (5, .box (TNode.c x1)), (6, .row 6 69 (([x1] : List TNode).map TNode.c)), (7, .row 6 69 ((t0.l ++ ([x1] : List TNode)).map TNode.c))]) (next' := 8) rfl rfl rfl rfl rfl ?_
  refine RD.done rfl ?_
  refine WK.sr mixed ?_
  refine GX.m rfl ?_
  iterate 2 refine GX.q (.ptr 0 0) ?_
  refine GX.q (.own 7 6 0 (t0.l ++ ([x1] : List TNode)).length) ?_
  refine GX.q (.int .i64 ((t0.l ++ ([x1] : List TNode)).length : Int)) ?_
  refine GX.q (.int .i64 (IntKind.i64.wrap (((t0.l ++ ([x1] : List TNode)).length : Int) - 1))) ?_
  refine GX.m rfl ?_
  refine GX.done ?_
  refine WK.ret ?_
  obtain rfl := Option.some.inj hR
  exact RetQ.ret [0, 1, 2, 7, 4] [] (.inr rfl) rfl rfl rfl rfl rfl .refl rfl
 ·rw [hb1]; first | replace hR := cond_t hb1 hR | (try simp only [hb1, bb] at hR)
  refine WK.condT rfl ?_
  refine WK.sr mixed ?_
  refine GX.m rfl ?_
  refine GX.q (.ptr 0 0) ?_
  refine GX.q (.ptr 0 1) ?_
  refine GX.q (.own 4 1 0 t0.free.length) ?_
  refine GX.m rfl ?_
  refine GX.q (.int .i64 (IntKind.i64.wrap ((t0.free.length : Int) - 1))) ?_
  generalize hx902 : getI t0.free (IntKind.i64.wrap ((t0.free.length : Int) - 1)) = x902 at hR
  rcases x902 with _ | x902
  ·try dsimp only at hR
   cases hR
  try dsimp only at hR
  obtain ⟨hx9020, hx902j, hx902l, hx902⟩ := getI_some hx902
  refine GX.pure (v' := .eptr 4 1 ((IntKind.i64.wrap ((t0.free.length : Int) - 1)).toNat) 0) rfl rfl rfl (core_idxoT (c := c_i64) (L := t0.free) (j := (IntKind.i64.wrap ((t0.free.length : Int) - 1)).toNat) rfl hx902j hx902l (by exact Nat.le_refl _)) rfl ?_
  refine GX.pure (v' := .int .i64 x902) rfl rfl rfl (core_loaT (c := c_i64) (L := t0.free) (x := x902) rfl hx902 rfl) rfl ?_
  refine GX.m rfl ?_
  refine GX.done ?_
  refine WK.seq ?_
  refine WK.drawn mixed ?_
  iterate 2 refine RD.m rfl ?_
  iterate 2 refine RD.q (.ptr 0 0) ?_
  refine RD.q (.own 3 6 0 t0.l.length) ?_
  iterate 2 refine RD.m rfl ?_
  refine RD.q (.ptr 0 0) ?_
  refine RD.q (.ptr 0 1) ?_
  refine RD.q (.own 4 1 0 t0.free.length) ?_
  refine RD.m rfl ?_
  refine RD.q (.int .i64 (IntKind.i64.wrap ((t0.free.length : Int) - 1))) ?_
  rcases bool_two (decide ((0 : Int) ≤ IntKind.i64.wrap ((t0.free.length : Int) - 1))) with hg4 | hg4
  ·simp only [hg4, bb] at hR
   try dsimp only at hR
   cases hR
  simp only [hg4, bb] at hR
  have hg4_ := of_decide_eq_true hg4
  rcases bool_two (decide (IntKind.i64.wrap ((t0.free.length : Int) - 1) ≤ (t0.free.length : Int))) with hg5 | hg5
  ·simp only [hg5, bb] at hR
   try dsimp only at hR
   cases hR
  simp only [hg5, bb] at hR
  have hg5_ := of_decide_eq_true hg5
  refine RD.pure (v' := .own 4 1 0 (t0.free.take (IntKind.i64.wrap ((t0.free.length : Int) - 1)).toNat).length) rfl rfl rfl (core_sliceRhi (c := c_i64) (L := t0.free) rfl (by omega) (by omega)) rfl ?_
  refine RD.q (.agg (TNode.c x1)) ?_
  refine RD.q (.ptr 0 0) ?_
  refine RD.q (.ptr 0 1) ?_
  refine RD.step0 (heap' := [(0, .box [.own 3 6 0 t0.l.length, .own 4 1 0 (t0.free.take (IntKind.i64.wrap ((t0.free.length : Int) - 1)).toNat).length, .int .i64 t0.root, .int .i64 t0.n]), (3, .row 6 69 (t0.l.map TNode.c)), (4, .row 1 3 (t0.free.map c_i64)), (5, .box (TNode.c x1))]) (next' := 6) rfl rfl rfl rfl rfl ?_
  generalize hx905 : getI t0.l x902 = x905 at hR
  rcases x905 with _ | x905
  ·try dsimp only at hR
   cases hR
  try dsimp only at hR
  obtain ⟨hx9050, hx905j, hx905l, hx905⟩ := getI_some hx905
  refine RD.pure (v' := .eptr 3 6 x902.toNat 0) rfl rfl rfl (core_idxoT (c := TNode.c) (L := t0.l) (j := x902.toNat) rfl hx905j hx905l (by exact Nat.le_refl _)) rfl ?_
  refine RD.step0 (heap' := [(0, .box [.own 3 6 0 t0.l.length, .own 4 1 0 (t0.free.take (IntKind.i64.wrap ((t0.free.length : Int) - 1)).toNat).length, .int .i64 t0.root, .int .i64 t0.n]), (3, .row 6 69 ((t0.l.set x902.toNat x1).map TNode.c)), (4, .row 1 3 (t0.free.map c_i64)), (5, .box (TNode.c x1))]) (next' := 6) rfl rfl (core_stoT (c := TNode.c) (L := t0.l) (x := x905) (x' := x1) rfl hx905 rfl rfl rfl rfl rfl) rfl rfl ?_
  refine RD.done rfl ?_
  refine WK.sr mixed ?_
  iterate 2 refine GX.m rfl ?_
  refine GX.done ?_
  refine WK.truncT (c := c_i64) (L := t0.free) (id := 4) (heap' := [(0, .box [.own 3 6 0 t0.l.length, .own 4 1 0 (t0.free.take (IntKind.i64.wrap ((t0.free.length : Int) - 1)).toNat).length, .int .i64 t0.root, .int .i64 t0.n]), (3, .row 6 69 ((t0.l.set x902.toNat x1).map TNode.c)), (4, .row 1 3 ((t0.free.take (IntKind.i64.wrap ((t0.free.length : Int) - 1)).toNat).map c_i64)), (5, .box (TNode.c x1))]) (IntKind.i64.wrap ((t0.free.length : Int) - 1)).toNat rfl (by simp) rfl ?_
  refine WK.ret ?_
  obtain rfl := Option.some.inj hR
  exact RetQ.ret [0, 1, 2, 3, 4] [] (.inr rfl) rfl rfl rfl (subR_cons rfl (viewO_box (viewGo_cons (viewP_own_len rfl (by simp)) (viewGo_cons rfl (viewGo_cons rfl (viewGo_cons rfl viewGo_nil))))) (subR_skip rfl (subR_skip rfl (subR_cons rfl rfl (subR_cons rfl rfl subR_nil))))) rfl .refl rfl

theorem f42_ok (p0 : TPrefix) (v1 : Int) (R : TNode) (hR : F42_trie_leaf p0 v1 = R) : FnOk Try.prog 42 [.agg (TPrefix.c p0), .int .i64 v1] [] 0 (.agg (TNode.c R)) [] 0 := by
 refine FnOk.wk i42 rfl rfl ?_
 unfold F42_trie_leaf at hR
 change WK _ _ _ [ac42] _ ⟨[(0, .agg (TPrefix.c p0)), (1, .int .i64 v1)], [], 0⟩
 unfold ac42
 refine WK.sr mixed ?_
 refine GX.step (v' := .ptr 0 0) (heap' := [(0, .box (TPrefix.c p0))]) (next' := 1) rfl rfl rfl rfl rfl rfl rfl ?_
 refine GX.step (v' := .ptr 1 0) (heap' := [(0, .box (TPrefix.c p0)), (1, .box [.int .u32 0, .int .i64 0, .int .i64 0, .bool false, .int .i64 0, .int .i64 0])]) (next' := 2) rfl rfl rfl rfl rfl rfl rfl ?_
 refine GX.done ?_
 refine WK.sr mixed ?_
 refine GX.q (.agg (TPrefix.c p0)) ?_
 refine GX.m rfl ?_
 refine GX.q (.agg [.int .i64 (-1), .int .i64 (-1)]) ?_
 refine GX.q (.agg [.int .u32 p0.A, .int .i64 p0.N, .int .i64 v1, .bool true, .int .i64 (-1), .int .i64 (-1)]) ?_
 refine GX.step0 (heap' := [(0, .box (TPrefix.c p0)), (1, .box [.int .u32 p0.A, .int .i64 p0.N, .int .i64 v1, .bool true, .int .i64 (-1), .int .i64 (-1)])]) (next' := 2) rfl rfl rfl rfl rfl ?_
 refine GX.done ?_
 refine WK.ret ?_
 subst hR
 exact RetQ.fr [] (.inr rfl) rfl rfl rfl rfl

theorem f49_ok (x0 : Int) (R : Int) (hR : F49_bits_Len32 x0 = R) : FnOk Try.prog 49 [.int .u32 x0] [] 0 (.int .i64 R) [] 0 := by
 refine FnOk.wk i49 rfl rfl ?_
 unfold F49_bits_Len32 at hR
 change WK _ _ _ [ac49] _ ⟨[(0, .int .u32 x0)], [], 0⟩
 unfold ac49
 refine WK.sr mixed ?_
 refine GX.m rfl ?_
 refine GX.done ?_
 refine WK.seq ?_
 refine WK.sr mixed ?_
 refine GX.m rfl ?_
 refine GX.q (.bool (decide (65536 ≤ x0))) ?_
 refine GX.done ?_
 rcases bool_two (decide (65536 ≤ x0)) with hb1 | hb1
 ·rw [hb1]; try simp only [hb1, bb] at hR
  refine WK.condF rfl ?_
  refine WK.skip ?_
  refine WK.seq ?_
  refine WK.sr mixed ?_
  refine GX.m rfl ?_
  refine GX.q (.bool (decide (256 ≤ x0))) ?_
  refine GX.done ?_
  rcases bool_two (decide (256 ≤ x0)) with hb2 | hb2
  ·rw [hb2]; try simp only [hb2, bb] at hR
   refine WK.condF rfl ?_
   refine WK.skip ?_
   refine WK.sr mixed ?_
   iterate 2 refine GX.m rfl ?_
   refine GX.q (.int .u8 (IntKind.u8.wrap x0)) ?_
   refine GX.pure (v' := .int .u8 (strAt (bstr [0, 1, 2, 2, 3, 3, 3, 3, 4, 4, 4, 4, 4, 4, 4, 4, 5, 5, 5, 5, 5, 5, 5, 5, 5, 5, 5, 5, 5, 5, 5, 5, 6, 6, 6, 6, 6, 6, 6, 6, 6, 6, 6, 6, 6, 6, 6, 6, 6, 6, 6, 6, 6, 6, 6, 6, 6, 6, 6, 6, 6, 6, 6, 6, 7, 7, 7, 7, 7, 7, 7, 7, 7, 7, 7, 7, 7, 7, 7, 7, 7, 7, 7, 7, 7, 7, 7, 7, 7, 7, 7, 7, 7, 7, 7, 7, 7, 7, 7, 7, 7, 7, 7, 7, 7, 7, 7, 7, 7, 7, 7, 7, 7, 7, 7, 7, 7, 7, 7, 7, 7, 7, 7, 7, 7, 7, 7, 7, 8, 8, 8, 8, 8, 8, 8, 8, 8, 8, 8, 8, 8, 8, 8, 8, 8, 8, 8, 8, 8, 8, 8, 8, 8, 8, 8, 8, 8, 8, 8, 8, 8, 8, 8, 8, 8, 8, 8, 8, 8, 8, 8, 8, 8, 8, 8, 8, 8, 8, 8, 8, 8, 8, 8, 8, 8, 8, 8, 8, 8, 8, 8, 8, 8, 8, 8, 8, 8, 8, 8, 8, 8, 8, 8, 8, 8, 8, 8, 8, 8, 8, 8, 8, 8, 8, 8, 8, 8, 8, 8, 8, 8, 8, 8, 8, 8, 8, 8, 8, 8, 8, 8, 8, 8, 8, 8, 8, 8, 8, 8, 8, 8, 8, 8, 8, 8, 8, 8, 8, 8, 8, 8, 8, 8, 8, 8, 8]) (IntKind.u8.wrap x0))) rfl rfl rfl (core_idxS256 rfl) rfl ?_
   refine GX.q (.int .i64 (IntKind.i64.wrap (strAt (bstr [0, 1, 2, 2, 3, 3, 3, 3, 4, 4, 4, 4, 4, 4, 4, 4, 5, 5, 5, 5, 5, 5, 5, 5, 5, 5, 5, 5, 5, 5, 5, 5, 6, 6, 6, 6, 6, 6, 6, 6, 6, 6, 6, 6, 6, 6, 6, 6, 6, 6, 6, 6, 6, 6, 6, 6, 6, 6, 6, 6, 6, 6, 6, 6, 7, 7, 7, 7, 7, 7, 7, 7, 7, 7, 7, 7, 7, 7, 7, 7, 7, 7, 7, 7, 7, 7, 7, 7, 7, 7, 7, 7, 7, 7, 7, 7, 7, 7, 7, 7, 7, 7, 7, 7, 7, 7, 7, 7, 7, 7, 7, 7, 7, 7, 7, 7, 7, 7, 7, 7, 7, 7, 7, 7, 7, 7, 7, 7, 8, 8, 8, 8, 8, 8, 8, 8, 8, 8, 8, 8, 8, 8, 8, 8, 8, 8, 8, 8, 8, 8, 8, 8, 8, 8, 8, 8, 8, 8, 8, 8, 8, 8, 8, 8, 8, 8, 8, 8, 8, 8, 8, 8, 8, 8, 8, 8, 8, 8, 8, 8, 8, 8, 8, 8, 8, 8, 8, 8, 8, 8, 8, 8, 8, 8, 8, 8, 8, 8, 8, 8, 8, 8, 8, 8, 8, 8, 8, 8, 8, 8, 8, 8, 8, 8, 8, 8, 8, 8, 8, 8, 8, 8, 8, 8, 8, 8, 8, 8, 8, 8, 8, 8, 8, 8, 8, 8, 8, 8, 8, 8, 8, 8, 8, 8, 8, 8, 8, 8, 8, 8, 8, 8, 8, 8, 8, 8]) (IntKind.u8.wrap x0)))) ?_
   refine GX.q (.int .i64 (IntKind.i64.wrap (0 + (IntKind.i64.wrap (strAt (bstr [0, 1, 2, 2, 3, 3, 3, 3, 4, 4, 4, 4, 4, 4, 4, 4, 5, 5, 5, 5, 5, 5, 5, 5, 5, 5, 5, 5, 5, 5, 5, 5, 6, 6, 6, 6, 6, 6, 6, 6, 6, 6, 6, 6, 6, 6, 6, 6, 6, 6, 6, 6, 6, 6, 6, 6, 6, 6, 6, 6, 6, 6, 6, 6, 7, 7, 7, 7, 7, 7, 7, 7, 7, 7, 7, 7, 7, 7, 7, 7, 7, 7, 7, 7, 7, 7, 7, 7, 7, 7, 7, 7, 7, 7, 7, 7, 7, 7, 7, 7, 7, 7, 7, 7, 7, 7, 7, 7, 7, 7, 7, 7, 7, 7, 7, 7, 7, 7, 7, 7, 7, 7, 7, 7, 7, 7, 7, 7, 8, 8, 8, 8, 8, 8, 8, 8, 8, 8, 8, 8, 8, 8, 8, 8, 8, 8, 8, 8, 8, 8, 8, 8, 8, 8, 8, 8, 8, 8, 8, 8, 8, 8, 8, 8, 8, 8, 8, 8, 8, 8, 8, 8, 8, 8, 8, 8, 8, 8, 8, 8, 8, 8, 8, 8, 8, 8, 8, 8, 8, 8, 8, 8, 8, 8, 8, 8, 8, 8, 8, 8, 8, 8, 8, 8, 8, 8, 8, 8, 8, 8, 8, 8, 8, 8, 8, 8, 8, 8, 8, 8, 8, 8, 8, 8, 8, 8, 8, 8, 8, 8, 8, 8, 8, 8, 8, 8, 8, 8, 8, 8, 8, 8, 8, 8, 8, 8, 8, 8, 8, 8, 8, 8, 8, 8, 8, 8]) (IntKind.u8.wrap x0)))))) ?_
   refine GX.m rfl ?_
   refine GX.done ?_
   refine WK.ret ?_
   subst hR
   exact RetQ.fr [] (.inr rfl) rfl rfl rfl rfl
  ·rw [hb2]; try simp only [hb2, bb] at hR
   refine WK.condT rfl ?_
   refine WK.sr mixed ?_
   refine GX.m rfl ?_
   refine GX.q (.int .u32 (Int.fdiv x0 (2 ^ 8))) ?_
   refine GX.m rfl ?_
   refine GX.done ?_
   refine WK.regx mixed ?_
   refine GX.m rfl ?_
   refine GX.q (.int .i64 8) ?_
   refine GX.m rfl ?_
   refine GX.done ?_
   refine WK.sr mixed ?_
   iterate 2 refine GX.m rfl ?_
   refine GX.q (.int .u8 (IntKind.u8.wrap (Int.fdiv x0 (2 ^ 8)))) ?_
   refine GX.pure (v' := .int .u8 (strAt (bstr [0, 1, 2, 2, 3, 3, 3, 3, 4, 4, 4, 4, 4, 4, 4, 4, 5, 5, 5, 5, 5, 5, 5, 5, 5, 5, 5, 5, 5, 5, 5, 5, 6, 6, 6, 6, 6, 6, 6, 6, 6, 6, 6, 6, 6, 6, 6, 6, 6, 6, 6, 6, 6, 6, 6, 6, 6, 6, 6, 6, 6, 6, 6, 6, 7, 7, 7, 7, 7, 7, 7, 7, 7, 7, 7, 7, 7, 7, 7, 7, 7, 7, 7, 7, 7, 7, 7, 7, 7, 7, 7, 7, 7, 7, 7, 7, 7, 7, 7, 7, 7, 7, 7, 7, 7, 7, 7, 7, 7, 7, 7, 7, 7, 7, 7, 7, 7, 7, 7, 7, 7, 7, 7, 7, 7, 7, 7, 7, 8, 8, 8, 8, 8, 8, 8, 8, 8, 8, 8, 8, 8, 8, 8, 8, 8, 8, 8, 8, 8, 8, 8, 8, 8, 8, 8, 8, 8, 8, 8, 8, 8, 8, 8, 8, 8, 8, 8, 8, 8, 8, 8, 8, 8, 8, 8, 8, 8, 8, 8, 8, 8, 8, 8, 8, 8, 8, 8, 8, 8, 8, 8, 8, 8, 8, 8, 8, 8, 8, 8, 8, 8, 8, 8, 8, 8, 8, 8, 8, 8, 8, 8, 8, 8, 8, 8, 8, 8, 8, 8, 8, 8, 8, 8, 8, 8, 8, 8, 8, 8, 8, 8, 8, 8, 8, 8, 8, 8, 8, 8, 8, 8, 8, 8, 8, 8, 8, 8, 8, 8, 8, 8, 8, 8, 8, 8, 8]) (IntKind.u8.wrap (Int.fdiv x0 (2 ^ 8))))) rfl rfl rfl (core_idxS256 rfl) rfl ?_
   refine GX.q (.int .i64 (IntKind.i64.wrap (strAt (bstr [0, 1, 2, 2, 3, 3, 3, 3, 4, 4, 4, 4, 4, 4, 4, 4, 5, 5, 5, 5, 5, 5, 5, 5, 5, 5, 5, 5, 5, 5, 5, 5, 6, 6, 6, 6, 6, 6, 6, 6, 6, 6, 6, 6, 6, 6, 6, 6, 6, 6, 6, 6, 6, 6, 6, 6, 6, 6, 6, 6, 6, 6, 6, 6, 7, 7, 7, 7, 7, 7, 7, 7, 7, 7, 7, 7, 7, 7, 7, 7, 7, 7, 7, 7, 7, 7, 7, 7, 7, 7, 7, 7, 7, 7, 7, 7, 7, 7, 7, 7, 7, 7, 7, 7, 7, 7, 7, 7, 7, 7, 7, 7, 7, 7, 7, 7, 7, 7, 7, 7, 7, 7, 7, 7, 7, 7, 7, 7, 8, 8, 8, 8, 8, 8, 8, 8, 8, 8, 8, 8, 8, 8, 8, 8, 8, 8, 8, 8, 8, 8, 8, 8, 8, 8, 8, 8, 8, 8, 8, 8, 8, 8, 8, 8, 8, 8, 8, 8, 8, 8, 8, 8, 8, 8, 8, 8, 8, 8, 8, 8, 8, 8, 8, 8, 8, 8, 8, 8, 8, 8, 8, 8, 8, 8, 8, 8, 8, 8, 8, 8, 8, 8, 8, 8, 8, 8, 8, 8, 8, 8, 8, 8, 8, 8, 8, 8, 8, 8, 8, 8, 8, 8, 8, 8, 8, 8, 8, 8, 8, 8, 8, 8, 8, 8, 8, 8, 8, 8, 8, 8, 8, 8, 8, 8, 8, 8, 8, 8, 8, 8, 8, 8, 8, 8, 8, 8]) (IntKind.u8.wrap (Int.fdiv x0 (2 ^ 8)))))) ?_
   refine GX.q (.int .i64 (IntKind.i64.wrap (8 + (IntKind.i64.wrap (strAt (bstr [0, 1, 2, 2, 3, 3, 3, 3, 4, 4, 4, 4, 4, 4, 4, 4, 5, 5, 5, 5, 5, 5, 5, 5, 5, 5, 5, 5, 5, 5, 5, 5, 6, 6, 6, 6, 6, 6, 6, 6, 6, 6, 6, 6, 6, 6, 6, 6, 6, 6, 6, 6, 6, 6, 6, 6, 6, 6, 6, 6, 6, 6, 6, 6, 7, 7, 7, 7, 7, 7, 7, 7, 7, 7, 7, 7, 7, 7, 7, 7, 7, 7, 7, 7, 7, 7, 7, 7, 7, 7, 7, 7, 7, 7, 7, 7, 7, 7, 7, 7, 7, 7, 7, 7, 7, 7, 7, 7, 7, 7, 7, 7, 7, 7, 7, 7, 7, 7, 7, 7, 7, 7, 7, 7, 7, 7, 7, 7, 8, 8, 8, 8, 8, 8, 8, 8, 8, 8, 8, 8, 8, 8, 8, 8, 8, 8, 8, 8, 8, 8, 8, 8, 8, 8, 8, 8, 8, 8, 8, 8, 8, 8, 8, 8, 8, 8, 8, 8, 8, 8, 8, 8, 8, 8, 8, 8, 8, 8, 8, 8, 8, 8, 8, 8, 8, 8, 8, 8, 8, 8, 8, 8, 8, 8, 8, 8, 8, 8, 8, 8, 8, 8, 8, 8, 8, 8, 8, 8, 8, 8, 8, 8, 8, 8, 8, 8, 8, 8, 8, 8, 8, 8, 8, 8, 8, 8, 8, 8, 8, 8, 8, 8, 8, 8, 8, 8, 8, 8, 8, 8, 8, 8, 8, 8, 8, 8, 8, 8, 8, 8, 8, 8, 8, 8, 8, 8]) (IntKind.u8.wrap (Int.fdiv x0 (2 ^ 8)))))))) ?_
   refine GX.m rfl ?_
   refine GX.done ?_
   refine WK.ret ?_
   subst hR
   exact RetQ.fr [] (.inr rfl) rfl rfl rfl rfl
 ·rw [hb1]; try simp only [hb1, bb] at hR
  refine WK.condT rfl ?_
  refine WK.sr mixed ?_
  refine GX.m rfl ?_
  refine GX.q (.int .u32 (Int.fdiv x0 (2 ^ 16))) ?_
  refine GX.m rfl ?_
  refine GX.done ?_
  refine WK.regx mixed ?_
  refine GX.m rfl ?_
  refine GX.done ?_
  refine WK.seq ?_
  refine WK.sr mixed ?_
  refine GX.m rfl ?_
  refine GX.q (.bool (decide (256 ≤ (Int.fdiv x0 (2 ^ 16))))) ?_
  refine GX.done ?_
  rcases bool_two (decide (256 ≤ (Int.fdiv x0 (2 ^ 16)))) with hb3 | hb3
  ·rw [hb3]; try simp only [hb3, bb] at hR
   refine WK.condF rfl ?_
   refine WK.skip ?_
   refine WK.sr mixed ?_
   iterate 2 refine GX.m rfl ?_
   refine GX.q (.int .u8 (IntKind.u8.wrap (Int.fdiv x0 (2 ^ 16)))) ?_
   refine GX.pure (v' := .int .u8 (strAt (bstr [0, 1, 2, 2, 3, 3, 3, 3, 4, 4, 4, 4, 4, 4, 4, 4, 5, 5, 5, 5, 5, 5, 5, 5, 5, 5, 5, 5, 5, 5, 5, 5, 6, 6, 6, 6, 6, 6, 6, 6, 6, 6, 6, 6, 6, 6, 6, 6, 6, 6, 6, 6, 6, 6, 6, 6, 6, 6, 6, 6, 6, 6, 6, 6, 7, 7, 7, 7, 7, 7, 7, 7, 7, 7, 7, 7, 7, 7, 7, 7, 7, 7, 7, 7, 7, 7, 7, 7, 7, 7, 7, 7, 7, 7, 7, 7, 7, 7, 7, 7, 7, 7, 7, 7, 7, 7, 7, 7, 7, 7, 7, 7, 7, 7, 7, 7, 7, 7, 7, 7, 7, 7, 7, 7, 7, 7, 7, 7, 8, 8, 8, 8, 8, 8, 8, 8, 8, 8, 8, 8, 8, 8, 8, 8, 8, 8, 8, 8, 8, 8, 8, 8, 8, 8, 8, 8, 8, 8, 8, 8, 8, 8, 8, 8, 8, 8, 8, 8, 8, 8, 8, 8, 8, 8, 8, 8, 8, 8, 8, 8, 8, 8, 8, 8, 8, 8, 8, 8, 8, 8, 8, 8, 8, 8, 8, 8, 8, 8, 8, 8, 8, 8, 8, 8, 8, 8, 8, 8, 8, 8, 8, 8, 8, 8, 8, 8, 8, 8, 8, 8, 8, 8, 8, 8, 8, 8, 8, 8, 8, 8, 8, 8, 8, 8, 8, 8, 8, 8, 8, 8, 8, 8, 8, 8, 8, 8, 8, 8, 8, 8, 8, 8, 8, 8, 8, 8]) (IntKind.u8.wrap (Int.fdiv x0 (2 ^ 16))))) rfl rfl rfl (core_idxS256 rfl) rfl ?_
   refine GX.q (.int .i64 (IntKind.i64.wrap (strAt (bstr [0, 1, 2, 2, 3, 3, 3, 3, 4, 4, 4, 4, 4, 4, 4, 4, 5, 5, 5, 5, 5, 5, 5, 5, 5, 5, 5, 5, 5, 5, 5, 5, 6, 6, 6, 6, 6, 6, 6, 6, 6, 6, 6, 6, 6, 6, 6, 6, 6, 6, 6, 6, 6, 6, 6, 6, 6, 6, 6, 6, 6, 6, 6, 6, 7, 7, 7, 7, 7, 7, 7, 7, 7, 7, 7, 7, 7, 7, 7, 7, 7, 7, 7, 7, 7, 7, 7, 7, 7, 7, 7, 7, 7, 7, 7, 7, 7, 7, 7, 7, 7, 7, 7, 7, 7, 7, 7, 7, 7, 7, 7, 7, 7, 7, 7, 7, 7, 7, 7, 7, 7, 7, 7, 7, 7, 7, 7, 7, 8, 8, 8, 8, 8, 8, 8, 8, 8, 8, 8, 8, 8, 8, 8, 8, 8, 8, 8, 8, 8, 8, 8, 8, 8, 8, 8, 8, 8, 8, 8, 8, 8, 8, 8, 8, 8, 8, 8, 8, 8, 8, 8, 8, 8, 8, 8, 8, 8, 8, 8, 8, 8, 8, 8, 8, 8, 8, 8, 8, 8, 8, 8, 8, 8, 8, 8, 8, 8, 8, 8, 8, 8, 8, 8, 8, 8, 8, 8, 8, 8, 8, 8, 8, 8, 8, 8, 8, 8, 8, 8, 8, 8, 8, 8, 8, 8, 8, 8, 8, 8, 8, 8, 8, 8, 8, 8, 8, 8, 8, 8, 8, 8, 8, 8, 8, 8, 8, 8, 8, 8, 8, 8, 8, 8, 8, 8, 8]) (IntKind.u8.wrap (Int.fdiv x0 (2 ^ 16)))))) ?_
   refine GX.q (.int .i64 (IntKind.i64.wrap (16 + (IntKind.i64.wrap (strAt (bstr [0, 1, 2, 2, 3, 3, 3, 3, 4, 4, 4, 4, 4, 4, 4, 4, 5, 5, 5, 5, 5, 5, 5, 5, 5, 5, 5, 5, 5, 5, 5, 5, 6, 6, 6, 6, 6, 6, 6, 6, 6, 6, 6, 6, 6, 6, 6, 6, 6, 6, 6, 6, 6, 6, 6, 6, 6, 6, 6, 6, 6, 6, 6, 6, 7, 7, 7, 7, 7, 7, 7, 7, 7, 7, 7, 7, 7, 7, 7, 7, 7, 7, 7, 7, 7, 7, 7, 7, 7, 7, 7, 7, 7, 7, 7, 7, 7, 7, 7, 7, 7, 7, 7, 7, 7, 7, 7, 7, 7, 7, 7, 7, 7, 7, 7, 7, 7, 7, 7, 7, 7, 7, 7, 7, 7, 7, 7, 7, 8, 8, 8, 8, 8, 8, 8, 8, 8, 8, 8, 8, 8, 8, 8, 8, 8, 8, 8, 8, 8, 8, 8, 8, 8, 8, 8, 8, 8, 8, 8, 8, 8, 8, 8, 8, 8, 8, 8, 8, 8, 8, 8, 8, 8, 8, 8, 8, 8, 8, 8, 8, 8, 8, 8, 8, 8, 8, 8, 8, 8, 8, 8, 8, 8, 8, 8, 8, 8, 8, 8, 8, 8, 8, 8, 8, 8, 8, 8, 8, 8, 8, 8, 8, 8, 8, 8, 8, 8, 8, 8, 8, 8, 8, 8, 8, 8, 8, 8, 8, 8, 8, 8, 8, 8, 8, 8, 8, 8, 8, 8, 8, 8, 8, 8, 8, 8, 8, 8, 8, 8, 8, 8, 8, 8, 8, 8, 8]) (IntKind.u8.wrap (Int.fdiv x0 (2 ^ 16)))))))) ?_
   refine GX.m rfl ?_
   refine GX.done ?_
   refine WK.ret ?_
   subst hR
   exact RetQ.fr [] (.inr rfl) rfl rfl rfl rfl
  ·rw [hb3]; try simp only [hb3, bb] at hR
   refine WK.condT rfl ?_
   refine WK.sr mixed ?_
   refine GX.m rfl ?_
   refine GX.q (.int .u32 (Int.fdiv (Int.fdiv x0 (2 ^ 16)) (2 ^ 8))) ?_
   refine GX.m rfl ?_
   refine GX.done ?_
   refine WK.regx mixed ?_
   refine GX.m rfl ?_
   refine GX.q (.int .i64 24) ?_
   refine GX.m rfl ?_
   refine GX.done ?_
   refine WK.sr mixed ?_
   iterate 2 refine GX.m rfl ?_
   refine GX.q (.int .u8 (IntKind.u8.wrap (Int.fdiv (Int.fdiv x0 (2 ^ 16)) (2 ^ 8)))) ?_
   refine GX.pure (v' := .int .u8 (strAt (bstr [0, 1, 2, 2, 3, 3, 3, 3, 4, 4, 4, 4, 4, 4, 4, 4, 5, 5, 5, 5, 5, 5, 5, 5, 5, 5, 5, 5, 5, 5, 5, 5, 6, 6, 6, 6, 6, 6, 6, 6, 6, 6, 6, 6, 6, 6, 6, 6, 6, 6, 6, 6, 6, 6, 6, 6, 6, 6, 6, 6, 6, 6, 6, 6, 7, 7, 7, 7, 7, 7, 7, 7, 7, 7, 7, 7, 7, 7, 7, 7, 7, 7, 7, 7, 7, 7, 7, 7, 7, 7, 7, 7, 7, 7, 7, 7, 7, 7, 7, 7, 7, 7, 7, 7, 7, 7, 7, 7, 7, 7, 7, 7, 7, 7, 7, 7, 7, 7, 7, 7, 7, 7, 7, 7, 7, 7, 7, 7, 8, 8, 8, 8, 8, 8, 8, 8, 8, 8, 8, 8, 8, 8, 8, 8, 8, 8, 8, 8, 8, 8, 8, 8, 8, 8, 8, 8, 8, 8, 8, 8, 8, 8, 8, 8, 8, 8, 8, 8, 8, 8, 8, 8, 8, 8, 8, 8, 8, 8, 8, 8, 8, 8, 8, 8, 8, 8, 8, 8, 8, 8, 8, 8, 8, 8, 8, 8, 8, 8, 8, 8, 8, 8, 8, 8, 8, 8, 8, 8, 8, 8, 8, 8, 8, 8, 8, 8, 8, 8, 8, 8, 8, 8, 8, 8, 8, 8, 8, 8, 8, 8, 8, 8, 8, 8, 8, 8, 8, 8, 8, 8, 8, 8, 8, 8, 8, 8, 8, 8, 8, 8, 8, 8, 8, 8, 8, 8]) (IntKind.u8.wrap (Int.fdiv (Int.fdiv x0 (2 ^ 16)) (2 ^ 8))))) rfl rfl rfl (core_idxS256 rfl) rfl ?_
   refine GX.q (.int .i64 (IntKind.i64.wrap (strAt (bstr [0, 1, 2, 2, 3, 3, 3, 3, 4, 4, 4, 4, 4, 4, 4, 4, 5, 5, 5, 5, 5, 5, 5, 5, 5, 5, 5, 5, 5, 5, 5, 5, 6, 6, 6, 6, 6, 6, 6, 6, 6, 6, 6, 6, 6, 6, 6, 6, 6, 6, 6, 6, 6, 6, 6, 6, 6, 6, 6, 6, 6, 6, 6, 6, 7, 7, 7, 7, 7, 7, 7, 7, 7, 7, 7, 7, 7, 7, 7, 7, 7, 7, 7, 7, 7, 7, 7, 7, 7, 7, 7, 7, 7, 7, 7, 7, 7, 7, 7, 7, 7, 7, 7, 7, 7, 7, 7, 7, 7, 7, 7, 7, 7, 7, 7, 7, 7, 7, 7, 7, 7, 7, 7, 7, 7, 7, 7, 7, 8, 8, 8, 8, 8, 8, 8, 8, 8, 8, 8, 8, 8, 8, 8, 8, 8, 8, 8, 8, 8, 8, 8, 8, 8, 8, 8, 8, 8, 8, 8, 8, 8, 8, 8, 8, 8, 8, 8, 8, 8, 8, 8, 8, 8, 8, 8, 8, 8, 8, 8, 8, 8, 8, 8, 8, 8, 8, 8, 8, 8, 8, 8, 8, 8, 8, 8, 8, 8, 8, 8, 8, 8, 8, 8, 8, 8, 8, 8, 8, 8, 8, 8, 8, 8, 8, 8, 8, 8, 8, 8, 8, 8, 8, 8, 8, 8, 8, 8, 8, 8, 8, 8, 8, 8, 8, 8, 8, 8, 8, 8, 8, 8, 8, 8, 8, 8, 8, 8, 8, 8, 8, 8, 8, 8, 8, 8, 8]) (IntKind.u8.wrap (Int.fdiv (Int.fdiv x0 (2 ^ 16)) (2 ^ 8)))))) ?_
   refine GX.q (.int .i64 (IntKind.i64.wrap (24 + (IntKind.i64.wrap (strAt (bstr [0, 1, 2, 2, 3, 3, 3, 3, 4, 4, 4, 4, 4, 4, 4, 4, 5, 5, 5, 5, 5, 5, 5, 5, 5, 5, 5, 5, 5, 5, 5, 5, 6, 6, 6, 6, 6, 6, 6, 6, 6, 6, 6, 6, 6, 6, 6, 6, 6, 6, 6, 6, 6, 6, 6, 6, 6, 6, 6, 6, 6, 6, 6, 6, 7, 7, 7, 7, 7, 7, 7, 7, 7, 7, 7, 7, 7, 7, 7, 7, 7, 7, 7, 7, 7, 7, 7, 7, 7, 7, 7, 7, 7, 7, 7, 7, 7, 7, 7, 7, 7, 7, 7, 7, 7, 7, 7, 7, 7, 7, 7, 7, 7, 7, 7, 7, 7, 7, 7, 7, 7, 7, 7, 7, 7, 7, 7, 7, 8, 8, 8, 8, 8, 8, 8, 8, 8, 8, 8, 8, 8, 8, 8, 8, 8, 8, 8, 8, 8, 8, 8, 8, 8, 8, 8, 8, 8, 8, 8, 8, 8, 8, 8, 8, 8, 8, 8, 8, 8, 8, 8, 8, 8, 8, 8, 8, 8, 8, 8, 8, 8, 8, 8, 8, 8, 8, 8, 8, 8, 8, 8, 8, 8, 8, 8, 8, 8, 8, 8, 8, 8, 8, 8, 8, 8, 8, 8, 8, 8, 8, 8, 8, 8, 8, 8, 8, 8, 8, 8, 8, 8, 8, 8, 8, 8, 8, 8, 8, 8, 8, 8, 8, 8, 8, 8, 8, 8, 8, 8, 8, 8, 8, 8, 8, 8, 8, 8, 8, 8, 8, 8, 8, 8, 8, 8, 8]) (IntKind.u8.wrap (Int.fdiv (Int.fdiv x0 (2 ^ 16)) (2 ^ 8)))))))) ?_
   refine GX.m rfl ?_
   refine GX.done ?_
   refine WK.ret ?_
   subst hR
   exact RetQ.fr [] (.inr rfl) rfl rfl rfl rfl

theorem f48_ok (x0 : Int) (R : Int) (hR : F48_bits_LeadingZeros32 x0 = R) : FnOk Try.prog 48 [.int .u32 x0] [] 0 (.int .i64 R) [] 0 := by
 refine FnOk.wk i48 rfl rfl ?_
 unfold F48_bits_LeadingZeros32 at hR
 change WK _ _ _ [ac48] _ ⟨[(0, .int .u32 x0)], [], 0⟩
 unfold ac48
 refine WK.sr mixed ?_
 refine GX.m rfl ?_
 refine GX.done ?_
 refine WK.sr mixed ?_
 refine GX.m rfl ?_
 generalize hc4 : F49_bits_Len32 x0 = c4 at hR
 try dsimp only at hR
 refine GX.callp (r := .int .i64 c4) rfl rfl rfl (f49_ok x0 _ hc4) rfl rfl ?_
 refine GX.q (.int .i64 (IntKind.i64.wrap (32 - c4))) ?_
 refine GX.m rfl ?_
 refine GX.done ?_
 refine WK.ret ?_
 subst hR
 exact RetQ.fr [] (.inr rfl) rfl rfl rfl rfl

theorem f44_ok (p0 : TPrefix) (q1 : TPrefix) (R : TPrefix) (hR : F44_addr_Common p0 q1 = R) : FnOk Try.prog 44 [.agg (TPrefix.c p0), .agg (TPrefix.c q1)] [] 0 (.agg (TPrefix.c R)) [] 0 := by
 refine FnOk.wk i44 rfl rfl ?_
 unfold F44_addr_Common at hR
 change WK _ _ _ [ac44] _ ⟨[(0, .agg (TPrefix.c p0)), (1, .agg (TPrefix.c q1))], [], 0⟩
 unfold ac44
 refine WK.sr mixed ?_
 refine GX.step (v' := .ptr 0 0) (heap' := [(0, .box (TPrefix.c p0))]) (next' := 1) rfl rfl rfl rfl rfl rfl rfl ?_
 refine GX.step (v' := .ptr 1 0) (heap' := [(0, .box (TPrefix.c p0)), (1, .box (TPrefix.c q1))]) (next' := 2) rfl rfl rfl rfl rfl rfl rfl ?_
 refine GX.step (v' := .ptr 2 0) (heap' := [(0, .box (TPrefix.c p0)), (1, .box (TPrefix.c q1)), (2, .box [.int .u32 0, .int .i64 0])]) (next' := 3) rfl rfl rfl rfl rfl rfl rfl ?_
 refine GX.done ?_
 refine WK.seq ?_
 refine WK.sr mixed ?_
 refine GX.q (.agg (TPrefix.c p0)) ?_
 generalize hc7 : F30_addr_May p0 = c7 at hR
 try dsimp only at hR
 refine GX.callp (r := .bool c7) rfl rfl rfl (f30_ok p0 _ hc7) rfl rfl ?_
 refine GX.q (.bool (!c7)) ?_
 refine GX.m rfl ?_
 rcases bool_two (c7) with hb1 | hb1
 ·rw [hb1]; try simp only [hb1, bb] at hR
  iterate 3 refine GX.skip rfl rfl ?_
  refine GX.q (.bool true) ?_
  refine GX.done ?_
  refine WK.condT rfl ?_
  refine WK.sr mixed ?_
  refine GX.q (.agg [.int .u32 0, .int .i64 0]) ?_
  refine GX.step0 (heap' := [(0, .box (TPrefix.c p0)), (1, .box (TPrefix.c q1)), (2, .box [.int .u32 0, .int .i64 0])]) (next' := 3) rfl rfl rfl rfl rfl ?_
  refine GX.done ?_
  refine WK.ret ?_
  subst hR
  exact RetQ.fr [] (.inr rfl) rfl rfl rfl rfl
 ·rw [hb1]; try simp only [hb1, bb] at hR
  refine GX.q (.agg (TPrefix.c q1)) ?_
  generalize hc11 : F30_addr_May q1 = c11 at hR
  try dsimp only at hR
  refine GX.callp (r := .bool c11) rfl rfl rfl (f30_ok q1 _ hc11) rfl rfl ?_
  iterate 2 refine GX.q (.bool (!c11)) ?_
  refine GX.done ?_
  rcases bool_two (c11) with hb2 | hb2
  ·rw [hb2]; try simp only [hb2, bb] at hR
   refine WK.condT rfl ?_
   refine WK.sr mixed ?_
   refine GX.q (.agg [.int .u32 0, .int .i64 0]) ?_
   refine GX.step0 (heap' := [(0, .box (TPrefix.c p0)), (1, .box (TPrefix.c q1)), (2, .box [.int .u32 0, .int .i64 0])]) (next' := 3) rfl rfl rfl rfl rfl ?_
   refine GX.done ?_
   refine WK.ret ?_
   subst hR
   exact RetQ.fr [] (.inr rfl) rfl rfl rfl rfl
  ·rw [hb2]; try simp only [hb2, bb] at hR
   refine WK.condF rfl ?_
   refine WK.skip ?_
   refine WK.seq ?_
   refine WK.drawn mixed ?_
   refine RD.q (.ptr 0 1) ?_
   refine RD.q (.int .i64 p0.N) ?_
   refine RD.q (.ptr 1 1) ?_
   refine RD.q (.int .i64 q1.N) ?_
   refine RD.q (.ptr 0 0) ?_
   refine RD.q (.int .u32 p0.A) ?_
   refine RD.q (.ptr 1 0) ?_
   refine RD.q (.int .u32 q1.A) ?_
   refine RD.q (.int .u32 (bit_xor .u32 p0.A q1.A)) ?_
   generalize hc24 : F48_bits_LeadingZeros32 (bit_xor .u32 p0.A q1.A) = c24 at hR
   try dsimp only at hR
   refine RD.callp (r := .int .i64 c24) rfl rfl rfl (f48_ok (bit_xor .u32 p0.A q1.A) _ hc24) rfl rfl ?_
   refine RD.q (.int .i64 (min_ (min_ p0.N q1.N) c24)) ?_
   refine RD.m rfl ?_
   refine RD.done rfl ?_
   refine WK.seq ?_
   refine WK.drawn mixed ?_
   refine RD.q (.ptr 0 0) ?_
   refine RD.q (.int .u32 p0.A) ?_
   refine RD.m rfl ?_
   generalize hc29 : F40_addr_Mask (min_ (min_ p0.N q1.N) c24) = c29 at hR
   try dsimp only at hR
   refine RD.callp (r := .int .u32 c29) rfl rfl rfl (f40_ok (min_ (min_ p0.N q1.N) c24) _ hc29) rfl rfl ?_
   refine RD.q (.int .u32 (bit_and .u32 p0.A c29)) ?_
   refine RD.m rfl ?_
   refine RD.q (.agg [.int .u32 (bit_and .u32 p0.A c29), .int .i64 (min_ (min_ p0.N q1.N) c24)]) ?_
   refine RD.step0 (heap' := [(0, .box (TPrefix.c p0)), (1, .box (TPrefix.c q1)), (2, .box [.int .u32 (bit_and .u32 p0.A c29), .int .i64 (min_ (min_ p0.N q1.N) c24)])]) (next' := 3) rfl rfl rfl rfl rfl ?_
   refine RD.done rfl ?_
   refine WK.ret ?_
   subst hR
   exact RetQ.fr [] (.inr rfl) rfl rfl rfl rfl

theorem f31_ok (fuel : Nat) : ∀ (t0 : TTrie) (i1 : Int) (p2 : TPrefix) (v3 : Int) (R : Int × TTrie) (hR : F31_trie_Trie_put fuel t0 i1 p2 v3 = some R), FnOk Try.prog 31 [.ptr 0 0, .int .i64 i1, .agg (TPrefix.c p2), .int .i64 v3] [(0, .box [.own 1 6 0 t0.l.length, .own 2 1 0 t0.free.length, .int .i64 t0.root, .int .i64 t0.n]), (1, .row 6 69 (t0.l.map TNode.c)), (2, .row 1 3 (t0.free.map c_i64))] 3 (.int .i64 R.1) [(0, .box [.own 3 6 0 R.2.l.length, .own 4 1 0 R.2.free.length, .int .i64 R.2.root, .int .i64 R.2.n]), (3, .row 6 69 (R.2.l.map TNode.c)), (4, .row 1 3 (R.2.free.map c_i64))] 5 := by
 induction fuel with
 | zero => intro t0 i1 p2 v3 R hR; cases hR
 | succ fuel ih =>
  intro t0 i1 p2 v3 R hR
  refine FnOk.wk i31 rfl rfl ?_
  unfold F31_trie_Trie_put at hR
  try dsimp only at hR
  change WK _ _ _ [ac31] _ ⟨[(0, .ptr 0 0), (1, .int .i64 i1), (2, .agg (TPrefix.c p2)), (3, .int .i64 v3)], [(0, .box [.own 1 6 0 t0.l.length, .own 2 1 0 t0.free.length, .int .i64 t0.root, .int .i64 t0.n]), (1, .row 6 69 (t0.l.map TNode.c)), (2, .row 1 3 (t0.free.map c_i64))], 3⟩
  unfold ac31
  refine WK.mvB (id := 0) (j := 0) (heap' := [(0, .box [.own 3 6 0 t0.l.length, .own 2 1 0 t0.free.length, .int .i64 t0.root, .int .i64 t0.n]), (2, .row 1 3 (t0.free.map c_i64)), (3, .row 6 69 (t0.l.map TNode.c))]) rfl rfl rfl (by simp) rfl ?_
  refine WK.mvB (id := 0) (j := 1) (heap' := [(0, .box [.own 3 6 0 t0.l.length, .own 4 1 0 t0.free.length, .int .i64 t0.root, .int .i64 t0.n]), (3, .row 6 69 (t0.l.map TNode.c)), (4, .row 1 3 (t0.free.map c_i64))]) rfl rfl rfl (by simp) rfl ?_
  refine WK.sr mixed ?_
  refine GX.step (v' := .ptr 5 0) (heap' := [(0, .box [.own 3 6 0 t0.l.length, .own 4 1 0 t0.free.length, .int .i64 t0.root, .int .i64 t0.n]), (3, .row 6 69 (t0.l.map TNode.c)), (4, .row 1 3 (t0.free.map c_i64)), (5, .box (TPrefix.c p2))]) (next' := 6) rfl rfl rfl rfl rfl rfl rfl ?_
  refine GX.m rfl ?_
  refine GX.done ?_
  refine WK.seq ?_
  refine WK.sr mixed ?_
  refine GX.m rfl ?_
  refine GX.q (.bool (decide (i1 = (-1)))) ?_
  refine GX.done ?_
  rcases bool_two (decide (i1 = (-1))) with hb1 | hb1
  ·rw [hb1]; first | replace hR := cond_f hb1 hR | (try simp only [hb1, bb] at hR)
   refine WK.condF rfl ?_
   refine WK.skip ?_
   refine WK.sr mixed ?_
   refine GX.m rfl ?_
   iterate 2 refine GX.q (.ptr 0 0) ?_
   refine GX.q (.own 3 6 0 t0.l.length) ?_
   refine GX.m rfl ?_
   generalize hx901 : getI t0.l i1 = x901 at hR
   rcases x901 with _ | x901
   ·try dsimp only at hR
    cases hR
   try dsimp only at hR
   obtain ⟨hx9010, hx901j, hx901l, hx901⟩ := getI_some hx901
   refine GX.pure (v' := .eptr 3 6 i1.toNat 0) rfl rfl rfl (core_idxoT (c := TNode.c) (L := t0.l) (j := i1.toNat) rfl hx901j hx901l (by exact Nat.le_refl _)) rfl ?_
   refine GX.pure (v' := .eptr 3 6 i1.toNat 0) rfl rfl rfl (core_fldT (c := TNode.c) (L := t0.l) rfl (by omega) rfl) rfl ?_
   refine GX.pure (v' := .agg [.int .u32 x901.p.A, .int .i64 x901.p.N]) rfl rfl rfl (core_loaT (c := TNode.c) (L := t0.l) (x := x901) rfl hx901 rfl) rfl ?_
   refine GX.step (v' := .ptr 6 0) (heap' := [(0, .box [.own 3 6 0 t0.l.length, .own 4 1 0 t0.free.length, .int .i64 t0.root, .int .i64 t0.n]), (3, .row 6 69 (t0.l.map TNode.c)), (4, .row 1 3 (t0.free.map c_i64)), (5, .box (TPrefix.c p2)), (6, .box [.int .u32 0, .int .i64 0])]) (next' := 7) rfl rfl rfl rfl rfl rfl rfl ?_
   refine GX.step0 (heap' := [(0, .box [.own 3 6 0 t0.l.length, .own 4 1 0 t0.free.length, .int .i64 t0.root, .int .i64 t0.n]), (3, .row 6 69 (t0.l.map TNode.c)), (4, .row 1 3 (t0.free.map c_i64)), (5, .box (TPrefix.c p2)), (6, .box (TPrefix.c x901.p))]) (next' := 7) rfl rfl rfl rfl rfl ?_
   refine GX.done ?_
   refine WK.seq ?_
   refine WK.blockK (fun _ hK3 => ?_)
   refine WK.sr mixed ?_
   refine GX.q (.agg (TPrefix.c x901.p)) ?_
   refine GX.q (.agg (TPrefix.c p2)) ?_
   refine GX.q (.bool (decide (x901.p.A = p2.A) && (decide (x901.p.N = p2.N) && true))) ?_
   refine GX.m rfl ?_
   refine GX.done ?_
   rcases bool_two ((decide (x901.p.A = p2.A) && (decide (x901.p.N = p2.N) && true))) with hb4 | hb4
   ·rw [hb4]; try simp only [hb4, bb] at hR
    refine WK.condF rfl ?_
    refine WK.sr mixed ?_
    refine GX.q (.agg (TPrefix.c x901.p)) ?_
    refine GX.q (.agg (TPrefix.c p2)) ?_
    generalize hc75 : F34_addr_Covers x901.p p2 = c75 at hR
    try dsimp only at hR
    refine GX.callp (r := .bool c75) rfl rfl rfl (f34_ok x901.p p2 _ hc75) rfl rfl ?_
    refine GX.m rfl ?_
    refine GX.done ?_
    rcases bool_two (c75) with hb5 | hb5
    ·rw [hb5]; first | replace hR := cond_f hb5 hR | (try simp only [hb5, bb] at hR)
     refine WK.condF rfl ?_
     refine WK.skip ?_
     refine WK.nil (QF.normal (hK3 _ ?_))
     refine WK.sr mixed ?_
     refine GX.m rfl ?_
     refine GX.q (.ptr 0 0) ?_
     refine GX.q (.ptr 0 3) ?_
     refine GX.q (.int .i64 t0.n) ?_
     refine GX.q (.int .i64 (IntKind.i64.wrap (t0.n + 1))) ?_
     refine GX.q (.ptr 0 0) ?_
     refine GX.q (.ptr 0 3) ?_
     refine GX.step0 (heap' := [(0, .box [.own 3 6 0 t0.l.length, .own 4 1 0 t0.free.length, .int .i64 t0.root, .int .i64 (IntKind.i64.wrap (t0.n + 1))]), (3, .row 6 69 (t0.l.map TNode.c)), (4, .row 1 3 (t0.free.map c_i64)), (5, .box (TPrefix.c p2)), (6, .box (TPrefix.c x901.p))]) (next' := 7) rfl rfl rfl rfl rfl ?_
     refine GX.done ?_
     refine WK.sr mixed ?_
     refine GX.q (.agg (TPrefix.c p2)) ?_
     refine GX.m rfl ?_
     generalize hc113 : F42_trie_leaf p2 v3 = c113 at hR
     try dsimp only at hR
     refine GX.callp (r := .agg [.int .u32 c113.p.A, .int .i64 c113.p.N, .int .i64 c113.v, .bool c113.isf, .int .i64 c113.kids.e0, .int .i64 c113.kids.e1]) rfl rfl rfl (f42_ok p2 v3 _ hc113) rfl rfl ?_
     refine GX.step (v' := .ptr 7 0) (heap' := [(0, .box [.own 3 6 0 t0.l.length, .own 4 1 0 t0.free.length, .int .i64 t0.root, .int .i64 (IntKind.i64.wrap (t0.n + 1))]), (3, .row 6 69 (t0.l.map TNode.c)), (4, .row 1 3 (t0.free.map c_i64)), (5, .box (TPrefix.c p2)), (6, .box (TPrefix.c x901.p)), (7, .box [.int .u32 0, .int .i64 0, .int .i64 0, .bool false, .int .i64 0, .int .i64 0])]) (next' := 8) rfl rfl rfl rfl rfl rfl rfl ?_
     refine GX.step0 (heap' := [(0, .box [.own 3 6 0 t0.l.length, .own 4 1 0 t0.free.length, .int .i64 t0.root, .int .i64 (IntKind.i64.wrap (t0.n + 1))]), (3, .row 6 69 (t0.l.map TNode.c)), (4, .row 1 3 (t0.free.map c_i64)), (5, .box (TPrefix.c p2)), (6, .box (TPrefix.c x901.p)), (7, .box (TNode.c c113))]) (next' := 8) rfl rfl rfl rfl rfl ?_
     refine GX.done ?_
     refine WK.seq ?_
     refine WK.sr mixed ?_
     refine GX.q (.agg (TPrefix.c p2)) ?_
     refine GX.q (.agg (TPrefix.c x901.p)) ?_
     generalize hc116 : F34_addr_Covers p2 x901.p = c116 at hR
     try dsimp only at hR
     refine GX.callp (r := .bool c116) rfl rfl rfl (f34_ok p2 x901.p _ hc116) rfl rfl ?_
     refine GX.done ?_
     rcases bool_two (c116) with hb6 | hb6
     ·rw [hb6]; first | replace hR := cond_f hb6 hR | (try simp only [hb6, bb] at hR)
      refine WK.condF rfl ?_
      refine WK.skip ?_
      refine WK.sr mixed ?_
      refine GX.q (.agg (TPrefix.c p2)) ?_
      refine GX.q (.agg (TPrefix.c x901.p)) ?_
      generalize hc128 : F44_addr_Common p2 x901.p = c128 at hR
      try dsimp only at hR
      refine GX.callp (r := .agg [.int .u32 c128.A, .int .i64 c128.N]) rfl rfl rfl (f44_ok p2 x901.p _ hc128) rfl rfl ?_
      refine GX.q (.agg [.int .i64 (-1), .int .i64 (-1)]) ?_
      refine GX.q (.agg [.int .u32 c128.A, .int .i64 c128.N, .int .i64 0, .bool false, .int .i64 (-1), .int .i64 (-1)]) ?_
      refine GX.step (v' := .ptr 8 0) (heap' := [(0, .box [.own 3 6 0 t0.l.length, .own 4 1 0 t0.free.length, .int .i64 t0.root, .int .i64 (IntKind.i64.wrap (t0.n + 1))]), (3, .row 6 69 (t0.l.map TNode.c)), (4, .row 1 3 (t0.free.map c_i64)), (5, .box (TPrefix.c p2)), (6, .box (TPrefix.c x901.p)), (7, .box (TNode.c c113)), (8, .box [.int .u32 0, .int .i64 0, .int .i64 0, .bool false, .int .i64 0, .int .i64 0])]) (next' := 9) rfl rfl rfl rfl rfl rfl rfl ?_
      refine GX.step0 (heap' := [(0, .box [.own 3 6 0 t0.l.length, .own 4 1 0 t0.free.length, .int .i64 t0.root, .int .i64 (IntKind.i64.wrap (t0.n + 1))]), (3, .row 6 69 (t0.l.map TNode.c)), (4, .row 1 3 (t0.free.map c_i64)), (5, .box (TPrefix.c p2)), (6, .box (TPrefix.c x901.p)), (7, .box (TNode.c c113)), (8, .box [.int .u32 c128.A, .int .i64 c128.N, .int .i64 0, .bool false, .int .i64 (-1), .int .i64 (-1)])]) (next' := 9) rfl rfl rfl rfl rfl ?_
      refine GX.done ?_
      refine WK.sr mixed ?_
      refine GX.q (.ptr 8 0) ?_
      refine GX.q (.agg [.int .u32 c128.A, .int .i64 c128.N]) ?_
      refine GX.q (.agg (TPrefix.c x901.p)) ?_
      generalize hc134 : F43_trie_side c128 x901.p = c134 at hR
      try dsimp only at hR
      refine GX.callp (r := .int .i64 c134) rfl rfl rfl (f43_ok c128 x901.p _ hc134) rfl rfl ?_
      refine GX.m rfl ?_
      refine GX.q (.ptr 8 4) ?_
      rcases Bool.eq_false_or_eq_true (decide (c134 = 0)) with hk7b | hk7b
      ·simp only [hk7b, bb] at hR
       have hk7 := of_decide_eq_true hk7b
       refine GX.pure (v' := .ptr 8 4) rfl rfl rfl (core_idxAAp (k := 0) rfl hk7 rfl rfl) rfl ?_
       refine GX.step0 (heap' := [(0, .box [.own 3 6 0 t0.l.length, .own 4 1 0 t0.free.length, .int .i64 t0.root, .int .i64 (IntKind.i64.wrap (t0.n + 1))]), (3, .row 6 69 (t0.l.map TNode.c)), (4, .row 1 3 (t0.free.map c_i64)), (5, .box (TPrefix.c p2)), (6, .box (TPrefix.c x901.p)), (7, .box (TNode.c c113)), (8, .box [.int .u32 c128.A, .int .i64 c128.N, .int .i64 0, .bool false, .int .i64 i1, .int .i64 (-1)])]) (next' := 9) rfl rfl rfl rfl rfl ?_
       refine GX.done ?_
       refine WK.seq ?_
       refine WK.drawn mixed ?_
       refine RD.q (.ptr 8 0) ?_
       refine RD.q (.agg [.int .u32 c128.A, .int .i64 c128.N]) ?_
       refine RD.q (.agg (TPrefix.c p2)) ?_
       generalize hc141 : F43_trie_side c128 p2 = c141 at hR
       try dsimp only at hR
       refine RD.callp (r := .int .i64 c141) rfl rfl rfl (f43_ok c128 p2 _ hc141) rfl rfl ?_
       refine RD.m rfl ?_
       refine RD.q (.agg (TNode.c c113)) ?_
       generalize hc144 : F41_trie_Trie_add (⟨t0.l, t0.free, t0.root, IntKind.i64.wrap (t0.n + 1)⟩ : TTrie) c113 = c144 at hR
       rcases c144 with _ | c144
       ·try dsimp only at hR
        cases hR
       try dsimp only at hR
       obtain ⟨c144a, c144b⟩ := c144; try dsimp only at hR
       refine RD.callx (r' := .int .i64 c144a) (heap' := [(0, .box [.own 9 6 0 c144b.l.length, .own 10 1 0 c144b.free.length, .int .i64 c144b.root, .int .i64 c144b.n]), (5, .box (TPrefix.c p2)), (6, .box (TPrefix.c x901.p)), (7, .box (TNode.c c113)), (8, .box [.int .u32 c128.A, .int .i64 c128.N, .int .i64 0, .bool false, .int .i64 i1, .int .i64 (-1)]), (10, .row 1 3 (c144b.free.map c_i64)), (9, .row 6 69 (c144b.l.map TNode.c))]) (next' := 11) [0, 3, 4] [] rfl rfl rfl rfl rfl rfl (f41_ok (⟨t0.l, t0.free, t0.root, IntKind.i64.wrap (t0.n + 1)⟩ : TTrie) c113 _ hc144) (.inl rfl) rfl rfl rfl ?_
       refine RD.q (.ptr 8 4) ?_
       rcases Bool.eq_false_or_eq_true (decide (c141 = 0)) with hk9b | hk9b
       ·simp only [hk9b, bb] at hR
        have hk9 := of_decide_eq_true hk9b
        refine RD.pure (v' := .ptr 8 4) rfl rfl rfl (core_idxAAp (k := 0) rfl hk9 rfl rfl) rfl ?_
        refine RD.step0 (heap' := [(0, .box [.own 9 6 0 c144b.l.length, .own 10 1 0 c144b.free.length, .int .i64 c144b.root, .int .i64 c144b.n]), (5, .box (TPrefix.c p2)), (6, .box (TPrefix.c x901.p)), (7, .box (TNode.c c113)), (8, .box [.int .u32 c128.A, .int .i64 c128.N, .int .i64 0, .bool false, .int .i64 c144a, .int .i64 (-1)]), (10, .row 1 3 (c144b.free.map c_i64)), (9, .row 6 69 (c144b.l.map TNode.c))]) (next' := 11) rfl rfl rfl rfl rfl ?_
        refine RD.done rfl ?_
        refine WK.sr mixed ?_
        refine GX.m rfl ?_
        refine GX.q (.agg [.int .u32 c128.A, .int .i64 c128.N, .int .i64 0, .bool false, .int .i64 c144a, .int .i64 (-1)]) ?_
        generalize hc149 : F41_trie_Trie_add c144b (⟨c128, 0, false, (⟨c144a, (-1)⟩ : TS)⟩ : TNode) = c149 at hR
        rcases c149 with _ | c149
        ·try dsimp only at hR
         cases hR
        try dsimp only at hR
        obtain ⟨c149a, c149b⟩ := c149; try dsimp only at hR
        refine GX.callx (r' := .int .i64 c149a) (heap' := [(0, .box [.own 11 6 0 c149b.l.length, .own 12 1 0 c149b.free.length, .int .i64 c149b.root, .int .i64 c149b.n]), (5, .box (TPrefix.c p2)), (6, .box (TPrefix.c x901.p)), (7, .box (TNode.c c113)), (8, .box [.int .u32 c128.A, .int .i64 c128.N, .int .i64 0, .bool false, .int .i64 c144a, .int .i64 (-1)]), (12, .row 1 3 (c149b.free.map c_i64)), (11, .row 6 69 (c149b.l.map TNode.c))]) (next' := 13) [0, 9, 10] [] rfl rfl rfl rfl rfl rfl (f41_ok c144b (⟨c128, 0, false, (⟨c144a, (-1)⟩ : TS)⟩ : TNode) _ hc149) (.inl rfl) rfl rfl rfl ?_
        refine GX.m rfl ?_
        refine GX.done ?_
        refine WK.ret ?_
        obtain rfl := Option.some.inj hR
        exact RetQ.ret [0, 1, 2, 11, 12] [] (.inr rfl) rfl rfl rfl rfl rfl .refl rfl
       simp only [hk9b, bb] at hR
       rcases Bool.eq_false_or_eq_true (decide (c141 = 1)) with hk11b | hk11b
       ·simp only [hk11b, bb] at hR
        have hk11 := of_decide_eq_true hk11b
        refine RD.pure (v' := .ptr 8 5) rfl rfl rfl (core_idxAAp (k := 1) rfl hk11 rfl rfl) rfl ?_
        refine RD.step0 (heap' := [(0, .box [.own 9 6 0 c144b.l.length, .own 10 1 0 c144b.free.length, .int .i64 c144b.root, .int .i64 c144b.n]), (5, .box (TPrefix.c p2)), (6, .box (TPrefix.c x901.p)), (7, .box (TNode.c c113)), (8, .box [.int .u32 c128.A, .int .i64 c128.N, .int .i64 0, .bool false, .int .i64 i1, .int .i64 c144a]), (10, .row 1 3 (c144b.free.map c_i64)), (9, .row 6 69 (c144b.l.map TNode.c))]) (next' := 11) rfl rfl rfl rfl rfl ?_
        refine RD.done rfl ?_
        refine WK.sr mixed ?_
        refine GX.m rfl ?_
        refine GX.q (.agg [.int .u32 c128.A, .int .i64 c128.N, .int .i64 0, .bool false, .int .i64 i1, .int .i64 c144a]) ?_
        generalize hc149 : F41_trie_Trie_add c144b (⟨c128, 0, false, (⟨i1, c144a⟩ : TS)⟩ : TNode) = c149 at hR
        rcases c149 with _ | c149
        ·try dsimp only at hR
         cases hR
        try dsimp only at hR
        obtain ⟨c149a, c149b⟩ := c149; try dsimp only at hR
        refine GX.callx (r' := .int .i64 c149a) (heap' := [(0, .box [.own 11 6 0 c149b.l.length, .own 12 1 0 c149b.free.length, .int .i64 c149b.root, .int .i64 c149b.n]), (5, .box (TPrefix.c p2)), (6, .box (TPrefix.c x901.p)), (7, .box (TNode.c c113)), (8, .box [.int .u32 c128.A, .int .i64 c128.N, .int .i64 0, .bool false, .int .i64 i1, .int .i64 c144a]), (12, .row 1 3 (c149b.free.map c_i64)), (11, .row 6 69 (c149b.l.map TNode.c))]) (next' := 13) [0, 9, 10] [] rfl rfl rfl rfl rfl rfl (f41_ok c144b (⟨c128, 0, false, (⟨i1, c144a⟩ : TS)⟩ : TNode) _ hc149) (.inl rfl) rfl rfl rfl ?_
        refine GX.m rfl ?_
        refine GX.done ?_
        refine WK.ret ?_
        obtain rfl := Option.some.inj hR
        exact RetQ.ret [0, 1, 2, 11, 12] [] (.inr rfl) rfl rfl rfl rfl rfl .refl rfl
       simp only [hk11b, bb] at hR
       try dsimp only at hR
       cases hR
      simp only [hk7b, bb] at hR
      rcases Bool.eq_false_or_eq_true (decide (c134 = 1)) with hk13b | hk13b
      ·simp only [hk13b, bb] at hR
       have hk13 := of_decide_eq_true hk13b
       refine GX.pure (v' := .ptr 8 5) rfl rfl rfl (core_idxAAp (k := 1) rfl hk13 rfl rfl) rfl ?_
       refine GX.step0 (heap' := [(0, .box [.own 3 6 0 t0.l.length, .own 4 1 0 t0.free.length, .int .i64 t0.root, .int .i64 (IntKind.i64.wrap (t0.n + 1))]), (3, .row 6 69 (t0.l.map TNode.c)), (4, .row 1 3 (t0.free.map c_i64)), (5, .box (TPrefix.c p2)), (6, .box (TPrefix.c x901.p)), (7, .box (TNode.c c113)), (8, .box [.int .u32 c128.A, .int .i64 c128.N, .int .i64 0, .bool false, .int .i64 (-1), .int .i64 i1])]) (next' := 9) rfl rfl rfl rfl rfl ?_
       refine GX.done ?_
       refine WK.seq ?_
       refine WK.drawn mixed ?_
       refine RD.q (.ptr 8 0) ?_
       refine RD.q (.agg [.int .u32 c128.A, .int .i64 c128.N]) ?_
       refine RD.q (.agg (TPrefix.c p2)) ?_
       generalize hc141 : F43_trie_side c128 p2 = c141 at hR
       try dsimp only at hR
       refine RD.callp (r := .int .i64 c141) rfl rfl rfl (f43_ok c128 p2 _ hc141) rfl rfl ?_
       refine RD.m rfl ?_
       refine RD.q (.agg (TNode.c c113)) ?_
       generalize hc144 : F41_trie_Trie_add (⟨t0.l, t0.free, t0.root, IntKind.i64.wrap (t0.n + 1)⟩ : TTrie) c113 = c144 at hR
       rcases c144 with _ | c144
       ·try dsimp only at hR
        cases hR
       try dsimp only at hR
       obtain ⟨c144a, c144b⟩ := c144; try dsimp only at hR
       refine RD.callx (r' := .int .i64 c144a) (heap' := [(0, .box [.own 9 6 0 c144b.l.length, .own 10 1 0 c144b.free.length, .int .i64 c144b.root, .int .i64 c144b.n]), (5, .box (TPrefix.c p2)), (6, .box (TPrefix.c x901.p)), (7, .box (TNode.c c113)), (8, .box [.int .u32 c128.A, .int .i64 c128.N, .int .i64 0, .bool false, .int .i64 (-1), .int .i64 i1]), (10, .row 1 3 (c144b.free.map c_i64)), (9, .row 6 69 (c144b.l.map TNode.c))]) (next' := 11) [0, 3, 4] [] rfl rfl rfl rfl rfl rfl (f41_ok (⟨t0.l, t0.free, t0.root, IntKind.i64.wrap (t0.n + 1)⟩ : TTrie) c113 _ hc144) (.inl rfl) rfl rfl rfl ?_
       refine RD.q (.ptr 8 4) ?_
       rcases Bool.eq_false_or_eq_true (decide (c141 = 0)) with hk15b | hk15b
       ·simp only [hk15b, bb] at hR
        have hk15 := of_decide_eq_true hk15b
        refine RD.pure (v' := .ptr 8 4) rfl rfl rfl (core_idxAAp (k := 0) rfl hk15 rfl rfl) rfl ?_
        refine RD.step0 (heap' := [(0, .box [.own 9 6 0 c144b.l.length, .own 10 1 0 c144b.free.length, .int .i64 c144b.root, .int .i64 c144b.n]), (5, .box (TPrefix.c p2)), (6, .box (TPrefix.c x901.p)), (7, .box (TNode.c c113)), (8, .box [.int .u32 c128.A, .int .i64 c128.N, .int .i64 0, .bool false, .int .i64 c144a, .int .i64 i1]), (10, .row 1 3 (c144b.free.map c_i64)), (9, .row 6 69 (c144b.l.map TNode.c))]) (next' := 11) rfl rfl rfl rfl rfl ?_
        refine RD.done rfl ?_
        refine WK.sr mixed ?_
        refine GX.m rfl ?_
        refine GX.q (.agg [.int .u32 c128.A, .int .i64 c128.N, .int .i64 0, .bool false, .int .i64 c144a, .int .i64 i1]) ?_
        generalize hc149 : F41_trie_Trie_add c144b (⟨c128, 0, false, (⟨c144a, i1⟩ : TS)⟩ : TNode) = c149 at hR
        rcases c149 with _ | c149
        ·try dsimp only at hR
         cases hR
        try dsimp only at hR
        obtain ⟨c149a, c149b⟩ := c149; try dsimp only at hR
        refine GX.callx (r' := .int .i64 c149a) (heap' := [(0, .box [.own 11 6 0 c149b.l.length, .own 12 1 0 c149b.free.length, .int .i64 c149b.root, .int .i64 c149b.n]), (5, .box (TPrefix.c p2)), (6, .box (TPrefix.c x901.p)), (7, .box (TNode.c c113)), (8, .box [.int .u32 c128.A, .int .i64 c128.N, .int .i64 0, .bool false, .int .i64 c144a, .int .i64 i1]), (12, .row 1 3 (c149b.free.map c_i64)), (11, .row 6 69 (c149b.l.map TNode.c))]) (next' := 13) [0, 9, 10] [] rfl rfl rfl rfl rfl rfl (f41_ok c144b (⟨c128, 0, false, (⟨c144a, i1⟩ : TS)⟩ : TNode) _ hc149) (.inl rfl) rfl rfl rfl ?_
        refine GX.m rfl ?_
        refine GX.done ?_
        refine WK.ret ?_
        obtain rfl := Option.some.inj hR
        exact RetQ.ret [0, 1, 2, 11, 12] [] (.inr rfl) rfl rfl rfl rfl rfl .refl rfl
       simp only [hk15b, bb] at hR
       rcases Bool.eq_false_or_eq_true (decide (c141 = 1)) with hk17b | hk17b
       ·simp only [hk17b, bb] at hR
        have hk17 := of_decide_eq_true hk17b
        refine RD.pure (v' := .ptr 8 5) rfl rfl rfl (core_idxAAp (k := 1) rfl hk17 rfl rfl) rfl ?_
        refine RD.step0 (heap' := [(0, .box [.own 9 6 0 c144b.l.length, .own 10 1 0 c144b.free.length, .int .i64 c144b.root, .int .i64 c144b.n]), (5, .box (TPrefix.c p2)), (6, .box (TPrefix.c x901.p)), (7, .box (TNode.c c113)), (8, .box [.int .u32 c128.A, .int .i64 c128.N, .int .i64 0, .bool false, .int .i64 (-1), .int .i64 c144a]), (10, .row 1 3 (c144b.free.map c_i64)), (9, .row 6 69 (c144b.l.map TNode.c))]) (next' := 11) rfl rfl rfl rfl rfl ?_
        refine RD.done rfl ?_
        refine WK.sr mixed ?_
        refine GX.m rfl ?_
        refine GX.q (.agg [.int .u32 c128.A, .int .i64 c128.N, .int .i64 0, .bool false, .int .i64 (-1), .int .i64 c144a]) ?_
        generalize hc149 : F41_trie_Trie_add c144b (⟨c128, 0, false, (⟨(-1), c144a⟩ : TS)⟩ : TNode) = c149 at hR
        rcases c149 with _ | c149
        ·try dsimp only at hR
         cases hR
        try dsimp only at hR
        obtain ⟨c149a, c149b⟩ := c149; try dsimp only at hR
        refine GX.callx (r' := .int .i64 c149a) (heap' := [(0, .box [.own 11 6 0 c149b.l.length, .own 12 1 0 c149b.free.length, .int .i64 c149b.root, .int .i64 c149b.n]), (5, .box (TPrefix.c p2)), (6, .box (TPrefix.c x901.p)), (7, .box (TNode.c c113)), (8, .box [.int .u32 c128.A, .int .i64 c128.N, .int .i64 0, .bool false, .int .i64 (-1), .int .i64 c144a]), (12, .row 1 3 (c149b.free.map c_i64)), (11, .row 6 69 (c149b.l.map TNode.c))]) (next' := 13) [0, 9, 10] [] rfl rfl rfl rfl rfl rfl (f41_ok c144b (⟨c128, 0, false, (⟨(-1), c144a⟩ : TS)⟩ : TNode) _ hc149) (.inl rfl) rfl rfl rfl ?_
        refine GX.m rfl ?_
        refine GX.done ?_
        refine WK.ret ?_
        obtain rfl := Option.some.inj hR
        exact RetQ.ret [0, 1, 2, 11, 12] [] (.inr rfl) rfl rfl rfl rfl rfl .refl rfl
       simp only [hk17b, bb] at hR
       try dsimp only at hR
       cases hR
      simp only [hk13b, bb] at hR
      try dsimp only at hR
      cases hR
     ·rw [hb6]; first | replace hR := cond_t hb6 hR | (try simp only [hb6, bb] at hR)
      refine WK.condT rfl ?_
      refine WK.sr mixed ?_
      refine GX.q (.agg (TPrefix.c p2)) ?_
      refine GX.q (.agg (TPrefix.c x901.p)) ?_
      generalize hc119 : F43_trie_side p2 x901.p = c119 at hR
      try dsimp only at hR
      refine GX.callp (r := .int .i64 c119) rfl rfl rfl (f43_ok p2 x901.p _ hc119) rfl rfl ?_
      refine GX.m rfl ?_
      refine GX.q (.ptr 7 4) ?_
      rcases Bool.eq_false_or_eq_true (decide (c119 = 0)) with hk19b | hk19b
      ·simp only [hk19b, bb] at hR
       have hk19 := of_decide_eq_true hk19b
       refine GX.pure (v' := .ptr 7 4) rfl rfl rfl (core_idxAAp (k := 0) rfl hk19 rfl rfl) rfl ?_
       refine GX.step0 (heap' := [(0, .box [.own 3 6 0 t0.l.length, .own 4 1 0 t0.free.length, .int .i64 t0.root, .int .i64 (IntKind.i64.wrap (t0.n + 1))]), (3, .row 6 69 (t0.l.map TNode.c)), (4, .row 1 3 (t0.free.map c_i64)), (5, .box (TPrefix.c p2)), (6, .box (TPrefix.c x901.p)), (7, .box [.int .u32 c113.p.A, .int .i64 c113.p.N, .int .i64 c113.v, .bool c113.isf, .int .i64 i1, .int .i64 c113.kids.e1])]) (next' := 8) rfl rfl rfl rfl rfl ?_
       refine GX.done ?_
       refine WK.sr mixed ?_
       refine GX.m rfl ?_
       refine GX.q (.agg [.int .u32 c113.p.A, .int .i64 c113.p.N, .int .i64 c113.v, .bool c113.isf, .int .i64 i1, .int .i64 c113.kids.e1]) ?_
       generalize hc125 : F41_trie_Trie_add (⟨t0.l, t0.free, t0.root, IntKind.i64.wrap (t0.n + 1)⟩ : TTrie) (⟨c113.p, c113.v, c113.isf, (⟨i1, c113.kids.e1⟩ : TS)⟩ : TNode) = c125 at hR
       rcases c125 with _ | c125
       ·try dsimp only at hR
        cases hR
       try dsimp only at hR
       obtain ⟨c125a, c125b⟩ := c125; try dsimp only at hR
       refine GX.callx (r' := .int .i64 c125a) (heap' := [(0, .box [.own 8 6 0 c125b.l.length, .own 9 1 0 c125b.free.length, .int .i64 c125b.root, .int .i64 c125b.n]), (5, .box (TPrefix.c p2)), (6, .box (TPrefix.c x901.p)), (7, .box [.int .u32 c113.p.A, .int .i64 c113.p.N, .int .i64 c113.v, .bool c113.isf, .int .i64 i1, .int .i64 c113.kids.e1]), (9, .row 1 3 (c125b.free.map c_i64)), (8, .row 6 69 (c125b.l.map TNode.c))]) (next' := 10) [0, 3, 4] [] rfl rfl rfl rfl rfl rfl (f41_ok (⟨t0.l, t0.free, t0.root, IntKind.i64.wrap (t0.n + 1)⟩ : TTrie) (⟨c113.p, c113.v, c113.isf, (⟨i1, c113.kids.e1⟩ : TS)⟩ : TNode) _ hc125) (.inl rfl) rfl rfl rfl ?_
       refine GX.m rfl ?_
       refine GX.done ?_
       refine WK.ret ?_
       obtain rfl := Option.some.inj hR
       exact RetQ.ret [0, 1, 2, 8, 9] [] (.inr rfl) rfl rfl rfl rfl rfl .refl rfl
      simp only [hk19b, bb] at hR
      rcases Bool.eq_false_or_eq_true (decide (c119 = 1)) with hk21b | hk21b
      ·simp only [hk21b, bb] at hR
       have hk21 := of_decide_eq_true hk21b
       refine GX.pure (v' := .ptr 7 5) rfl rfl rfl (core_idxAAp (k := 1) rfl hk21 rfl rfl) rfl ?_
       refine GX.step0 (heap' := [(0, .box [.own 3 6 0 t0.l.length, .own 4 1 0 t0.free.length, .int .i64 t0.root, .int .i64 (IntKind.i64.wrap (t0.n + 1))]), (3, .row 6 69 (t0.l.map TNode.c)), (4, .row 1 3 (t0.free.map c_i64)), (5, .box (TPrefix.c p2)), (6, .box (TPrefix.c x901.p)), (7, .box [.int .u32 c113.p.A, .int .i64 c113.p.N, .int .i64 c113.v, .bool c113.isf, .int .i64 c113.kids.e0, .int .i64 i1])]) (next' := 8) rfl rfl rfl rfl rfl ?_
       refine GX.done ?_
       refine WK.sr mixed ?_
       refine GX.m rfl ?_
       refine GX.q (.agg [.int .u32 c113.p.A, .int .i64 c113.p.N, .int .i64 c113.v, .bool c113.isf, .int .i64 c113.kids.e0, .int .i64 i1]) ?_
       generalize hc125 : F41_trie_Trie_add (⟨t0.l, t0.free, t0.root, IntKind.i64.wrap (t0.n + 1)⟩ : TTrie) (⟨c113.p, c113.v, c113.isf, (⟨c113.kids.e0, i1⟩ : TS)⟩ : TNode) = c125 at hR
       rcases c125 with _ | c125
       ·try dsimp only at hR
        cases hR
       try dsimp only at hR
       obtain ⟨c125a, c125b⟩ := c125; try dsimp only at hR
       refine GX.callx (r' := .int .i64 c125a) (heap' := [(0, .box [.own 8 6 0 c125b.l.length, .own 9 1 0 c125b.free.length, .int .i64 c125b.root, .int .i64 c125b.n]), (5, .box (TPrefix.c p2)), (6, .box (TPrefix.c x901.p)), (7, .box [.int .u32 c113.p.A, .int .i64 c113.p.N, .int .i64 c113.v, .bool c113.isf, .int .i64 c113.kids.e0, .int .i64 i1]), (9, .row 1 3 (c125b.free.map c_i64)), (8, .row 6 69 (c125b.l.map TNode.c))]) (next' := 10) [0, 3, 4] [] rfl rfl rfl rfl rfl rfl (f41_ok (⟨t0.l, t0.free, t0.root, IntKind.i64.wrap (t0.n + 1)⟩ : TTrie) (⟨c113.p, c113.v, c113.isf, (⟨c113.kids.e0, i1⟩ : TS)⟩ : TNode) _ hc125) (.inl rfl) rfl rfl rfl ?_
       refine GX.m rfl ?_
       refine GX.done ?_
       refine WK.ret ?_
       obtain rfl := Option.some.inj hR
       exact RetQ.ret [0, 1, 2, 8, 9] [] (.inr rfl) rfl rfl rfl rfl rfl .refl rfl
      simp only [hk21b, bb] at hR
      try dsimp only at hR
      cases hR
    ·rw [hb5]; first | replace hR := cond_t hb5 hR | (try simp only [hb5, bb] at hR)
     refine WK.condT rfl ?_
     refine WK.sr mixed ?_
     refine GX.q (.agg (TPrefix.c x901.p)) ?_
     refine GX.q (.agg (TPrefix.c p2)) ?_
     generalize hc78 : F43_trie_side x901.p p2 = c78 at hR
     try dsimp only at hR
     refine GX.callp (r := .int .i64 c78) rfl rfl rfl (f43_ok x901.p p2 _ hc78) rfl rfl ?_
     refine GX.m rfl ?_
     refine GX.done ?_
     refine WK.seq ?_
     refine WK.drawn mixed ?_
     iterate 2 refine RD.m rfl ?_
     iterate 2 refine RD.q (.ptr 0 0) ?_
     refine RD.q (.own 3 6 0 t0.l.length) ?_
     iterate 2 refine RD.m rfl ?_
     refine RD.pure (v' := .eptr 3 6 i1.toNat 0) rfl rfl rfl (core_idxoT (c := TNode.c) (L := t0.l) (j := i1.toNat) rfl hx901j hx901l (by exact Nat.le_refl _)) rfl ?_
     refine RD.pure (v' := .eptr 3 6 i1.toNat 4) rfl rfl rfl (core_fldT (c := TNode.c) (L := t0.l) rfl (by omega) rfl) rfl ?_
     rcases Bool.eq_false_or_eq_true (decide (c78 = 0)) with hk23b | hk23b
     ·simp only [hk23b, bb] at hR
      have hk23 := of_decide_eq_true hk23b
      refine RD.pure (v' := .eptr 3 6 i1.toNat 4) rfl rfl rfl (core_idxAAe (c := TNode.c) (L := t0.l) (k := 0) rfl hk23 rfl (by omega) rfl) rfl ?_
      refine RD.pure (v' := .int .i64 x901.kids.e0) rfl rfl rfl (core_loaT (c := TNode.c) (L := t0.l) (x := x901) rfl hx901 rfl) rfl ?_
      refine RD.q (.agg (TPrefix.c p2)) ?_
      refine RD.m rfl ?_
      generalize hc92 : F31_trie_Trie_put fuel t0 x901.kids.e0 p2 v3 = c92 at hR
      rcases c92 with _ | c92
      ·try dsimp only at hR
       cases hR
      try dsimp only at hR
      obtain ⟨c92a, c92b⟩ := c92; try dsimp only at hR
      refine RD.callx (r' := .int .i64 c92a) (heap' := [(0, .box [.own 7 6 0 c92b.l.length, .own 8 1 0 c92b.free.length, .int .i64 c92b.root, .int .i64 c92b.n]), (5, .box (TPrefix.c p2)), (6, .box (TPrefix.c x901.p)), (8, .row 1 3 (c92b.free.map c_i64)), (7, .row 6 69 (c92b.l.map TNode.c))]) (next' := 9) [0, 3, 4] [] rfl rfl rfl rfl rfl rfl (ih t0 x901.kids.e0 p2 v3 _ hc92) (.inl rfl) rfl rfl rfl ?_
      refine RD.m rfl ?_
      refine RD.done rfl ?_
      refine WK.sr mixed ?_
      refine GX.m rfl ?_
      iterate 2 refine GX.q (.ptr 0 0) ?_
      refine GX.q (.own 7 6 0 c92b.l.length) ?_
      iterate 3 refine GX.m rfl ?_
      generalize hx924 : getI c92b.l i1 = x924 at hR
      rcases x924 with _ | x924
      ·try dsimp only at hR
       cases hR
      try dsimp only at hR
      obtain ⟨hx9240, hx924j, hx924l, hx924⟩ := getI_some hx924
      refine GX.pure (v' := .eptr 7 6 i1.toNat 0) rfl rfl rfl (core_idxoT (c := TNode.c) (L := c92b.l) (j := i1.toNat) rfl hx924j hx924l (by exact Nat.le_refl _)) rfl ?_
      refine GX.pure (v' := .eptr 7 6 i1.toNat 4) rfl rfl rfl (core_fldT (c := TNode.c) (L := c92b.l) rfl (by omega) rfl) rfl ?_
      refine GX.pure (v' := .eptr 7 6 i1.toNat 4) rfl rfl rfl (core_idxAAe (c := TNode.c) (L := c92b.l) (k := 0) rfl hk23 rfl (by omega) rfl) rfl ?_
      refine GX.step0 (heap' := [(0, .box [.own 7 6 0 c92b.l.length, .own 8 1 0 c92b.free.length, .int .i64 c92b.root, .int .i64 c92b.n]), (5, .box (TPrefix.c p2)), (6, .box (TPrefix.c x901.p)), (8, .row 1 3 (c92b.free.map c_i64)), (7, .row 6 69 ((c92b.l.set i1.toNat (⟨x924.p, x924.v, x924.isf, (⟨c92a, x924.kids.e1⟩ : TS)⟩ : TNode)).map TNode.c))]) (next' := 9) rfl rfl (core_stoT (c := TNode.c) (L := c92b.l) (x := x924) (x' := (⟨x924.p, x924.v, x924.isf, (⟨c92a, x924.kids.e1⟩ : TS)⟩ : TNode)) rfl hx924 rfl rfl rfl rfl rfl) rfl rfl ?_
      refine GX.done ?_
      refine WK.sr mixed ?_
      iterate 2 refine GX.m rfl ?_
      refine GX.done ?_
      refine WK.ret ?_
      refine QF.ret ?_
      obtain rfl := Option.some.inj hR
      exact RetQ.ret [0, 1, 2, 7, 8] [] (.inr rfl) rfl rfl rfl (subR_cons rfl (viewO_box (viewGo_cons (viewP_own_len rfl (by simp)) (viewGo_cons rfl (viewGo_cons rfl (viewGo_cons rfl viewGo_nil))))) (subR_skip rfl (subR_skip rfl (subR_cons rfl rfl (subR_cons rfl rfl subR_nil))))) rfl .refl rfl
     simp only [hk23b, bb] at hR
     rcases Bool.eq_false_or_eq_true (decide (c78 = 1)) with hk26b | hk26b
     ·simp only [hk26b, bb] at hR
      have hk26 := of_decide_eq_true hk26b
      refine RD.pure (v' := .eptr 3 6 i1.toNat 5) rfl rfl rfl (core_idxAAe (c := TNode.c) (L := t0.l) (k := 1) rfl hk26 rfl (by omega) rfl) rfl ?_
      refine RD.pure (v' := .int .i64 x901.kids.e1) rfl rfl rfl (core_loaT (c := TNode.c) (L := t0.l) (x := x901) rfl hx901 rfl) rfl ?_
      refine RD.q (.agg (TPrefix.c p2)) ?_
      refine RD.m rfl ?_
      generalize hc92 : F31_trie_Trie_put fuel t0 x901.kids.e1 p2 v3 = c92 at hR
      rcases c92 with _ | c92
      ·try dsimp only at hR
       cases hR
      try dsimp only at hR
      obtain ⟨c92a, c92b⟩ := c92; try dsimp only at hR
      refine RD.callx (r' := .int .i64 c92a) (heap' := [(0, .box [.own 7 6 0 c92b.l.length, .own 8 1 0 c92b.free.length, .int .i64 c92b.root, .int .i64 c92b.n]), (5, .box (TPrefix.c p2)), (6, .box (TPrefix.c x901.p)), (8, .row 1 3 (c92b.free.map c_i64)), (7, .row 6 69 (c92b.l.map TNode.c))]) (next' := 9) [0, 3, 4] [] rfl rfl rfl rfl rfl rfl (ih t0 x901.kids.e1 p2 v3 _ hc92) (.inl rfl) rfl rfl rfl ?_
      refine RD.m rfl ?_
      refine RD.done rfl ?_
      refine WK.sr mixed ?_
      refine GX.m rfl ?_
      iterate 2 refine GX.q (.ptr 0 0) ?_
      refine GX.q (.own 7 6 0 c92b.l.length) ?_
      iterate 3 refine GX.m rfl ?_
      generalize hx927 : getI c92b.l i1 = x927 at hR
      rcases x927 with _ | x927
      ·try dsimp only at hR
       cases hR
      try dsimp only at hR
      obtain ⟨hx9270, hx927j, hx927l, hx927⟩ := getI_some hx927
      refine GX.pure (v' := .eptr 7 6 i1.toNat 0) rfl rfl rfl (core_idxoT (c := TNode.c) (L := c92b.l) (j := i1.toNat) rfl hx927j hx927l (by exact Nat.le_refl _)) rfl ?_
      refine GX.pure (v' := .eptr 7 6 i1.toNat 4) rfl rfl rfl (core_fldT (c := TNode.c) (L := c92b.l) rfl (by omega) rfl) rfl ?_
      refine GX.pure (v' := .eptr 7 6 i1.toNat 5) rfl rfl rfl (core_idxAAe (c := TNode.c) (L := c92b.l) (k := 1) rfl hk26 rfl (by omega) rfl) rfl ?_
      refine GX.step0 (heap' := [(0, .box [.own 7 6 0 c92b.l.length, .own 8 1 0 c92b.free.length, .int .i64 c92b.root, .int .i64 c92b.n]), (5, .box (TPrefix.c p2)), (6, .box (TPrefix.c x901.p)), (8, .row 1 3 (c92b.free.map c_i64)), (7, .row 6 69 ((c92b.l.set i1.toNat (⟨x927.p, x927.v, x927.isf, (⟨x927.kids.e0, c92a⟩ : TS)⟩ : TNode)).map TNode.c))]) (next' := 9) rfl rfl (core_stoT (c := TNode.c) (L := c92b.l) (x := x927) (x' := (⟨x927.p, x927.v, x927.isf, (⟨x927.kids.e0, c92a⟩ : TS)⟩ : TNode)) rfl hx927 rfl rfl rfl rfl rfl) rfl rfl ?_
      refine GX.done ?_
      refine WK.sr mixed ?_
      iterate 2 refine GX.m rfl ?_
      refine GX.done ?_
      refine WK.ret ?_
      refine QF.ret ?_
      obtain rfl := Option.some.inj hR
      exact RetQ.ret [0, 1, 2, 7, 8] [] (.inr rfl) rfl rfl rfl (subR_cons rfl (viewO_box (viewGo_cons (viewP_own_len rfl (by simp)) (viewGo_cons rfl (viewGo_cons rfl (viewGo_cons rfl viewGo_nil))))) (subR_skip rfl (subR_skip rfl (subR_cons rfl rfl (subR_cons rfl rfl subR_nil))))) rfl .refl rfl
     simp only [hk26b, bb] at hR
     try dsimp only at hR
     cases hR
   ·rw [hb4]; try simp only [hb4, bb] at hR
    refine WK.condT rfl ?_
    refine WK.seq ?_
    refine WK.sr mixed ?_
    refine GX.m rfl ?_
    iterate 2 refine GX.q (.ptr 0 0) ?_
    refine GX.q (.own 3 6 0 t0.l.length) ?_
    refine GX.m rfl ?_
    refine GX.pure (v' := .eptr 3 6 i1.toNat 0) rfl rfl rfl (core_idxoT (c := TNode.c) (L := t0.l) (j := i1.toNat) rfl hx901j hx901l (by exact Nat.le_refl _)) rfl ?_
    refine GX.pure (v' := .eptr 3 6 i1.toNat 3) rfl rfl rfl (core_fldT (c := TNode.c) (L := t0.l) rfl (by omega) rfl) rfl ?_
    refine GX.pure (v' := .bool x901.isf) rfl rfl rfl (core_loaT (c := TNode.c) (L := t0.l) (x := x901) rfl hx901 rfl) rfl ?_
    refine GX.q (.bool (!x901.isf)) ?_
    refine GX.done ?_
    rcases bool_two (x901.isf) with hb29 | hb29
    ·rw [hb29]; first | replace hR := cond_f hb29 hR | (try simp only [hb29, bb] at hR)
     refine WK.condT rfl ?_
     refine WK.regx mixed ?_
     refine GX.m rfl ?_
     refine GX.q (.ptr 0 0) ?_
     refine GX.q (.ptr 0 3) ?_
     refine GX.q (.int .i64 t0.n) ?_
     refine GX.q (.int .i64 (IntKind.i64.wrap (t0.n + 1))) ?_
     refine GX.q (.ptr 0 0) ?_
     refine GX.q (.ptr 0 3) ?_
     refine GX.step0 (heap' := [(0, .box [.own 3 6 0 t0.l.length, .own 4 1 0 t0.free.length, .int .i64 t0.root, .int .i64 (IntKind.i64.wrap (t0.n + 1))]), (3, .row 6 69 (t0.l.map TNode.c)), (4, .row 1 3 (t0.free.map c_i64)), (5, .box (TPrefix.c p2)), (6, .box (TPrefix.c x901.p))]) (next' := 7) rfl rfl rfl rfl rfl ?_
     refine GX.done ?_
     refine WK.seq ?_
     refine WK.drawn mixed ?_
     refine RD.m rfl ?_
     iterate 2 refine RD.q (.ptr 0 0) ?_
     refine RD.q (.own 3 6 0 t0.l.length) ?_
     iterate 2 refine RD.m rfl ?_
     iterate 2 refine RD.q (.ptr 0 0) ?_
     refine RD.q (.own 3 6 0 t0.l.length) ?_
     iterate 2 refine RD.m rfl ?_
     refine RD.pure (v' := .eptr 3 6 i1.toNat 0) rfl rfl rfl (core_idxoT (c := TNode.c) (L := t0.l) (j := i1.toNat) rfl hx901j hx901l (by exact Nat.le_refl _)) rfl ?_
     refine RD.pure (v' := .eptr 3 6 i1.toNat 2) rfl rfl rfl (core_fldT (c := TNode.c) (L := t0.l) rfl (by omega) rfl) rfl ?_
     refine RD.step0 (heap' := [(0, .box [.own 3 6 0 t0.l.length, .own 4 1 0 t0.free.length, .int .i64 t0.root, .int .i64 (IntKind.i64.wrap (t0.n + 1))]), (3, .row 6 69 ((t0.l.set i1.toNat (⟨x901.p, v3, x901.isf, x901.kids⟩ : TNode)).map TNode.c)), (4, .row 1 3 (t0.free.map c_i64)), (5, .box (TPrefix.c p2)), (6, .box (TPrefix.c x901.p))]) (next' := 7) rfl rfl (core_stoT (c := TNode.c) (L := t0.l) (x := x901) (x' := (⟨x901.p, v3, x901.isf, x901.kids⟩ : TNode)) rfl hx901 rfl rfl rfl rfl rfl) rfl rfl ?_
     refine RD.pure (v' := .eptr 3 6 i1.toNat 0) rfl rfl rfl (core_idxoT (c := TNode.c) (L := (t0.l.set i1.toNat (⟨x901.p, v3, x901.isf, x901.kids⟩ : TNode))) (j := i1.toNat) rfl hx901j (by first | exact hx901l | exact set_lt hx901l) (by simp)) rfl ?_
     refine RD.pure (v' := .eptr 3 6 i1.toNat 3) rfl rfl rfl (core_fldT (c := TNode.c) (L := (t0.l.set i1.toNat (⟨x901.p, v3, x901.isf, x901.kids⟩ : TNode))) rfl (by (simp only [List.length_set]; omega)) rfl) rfl ?_
     refine RD.step0 (heap' := [(0, .box [.own 3 6 0 t0.l.length, .own 4 1 0 t0.free.length, .int .i64 t0.root, .int .i64 (IntKind.i64.wrap (t0.n + 1))]), (3, .row 6 69 (((t0.l.set i1.toNat (⟨x901.p, v3, x901.isf, x901.kids⟩ : TNode)).set i1.toNat (⟨((⟨x901.p, v3, x901.isf, x901.kids⟩ : TNode).p), (⟨x901.p, v3, x901.isf, x901.kids⟩ : TNode).v, true, ((⟨x901.p, v3, x901.isf, x901.kids⟩ : TNode).kids)⟩ : TNode)).map TNode.c)), (4, .row 1 3 (t0.free.map c_i64)), (5, .box (TPrefix.c p2)), (6, .box (TPrefix.c x901.p))]) (next' := 7) rfl rfl (core_stoT (c := TNode.c) (L := (t0.l.set i1.toNat (⟨x901.p, v3, x901.isf, x901.kids⟩ : TNode))) (x := (⟨x901.p, v3, x901.isf, x901.kids⟩ : TNode)) (x' := (⟨((⟨x901.p, v3, x901.isf, x901.kids⟩ : TNode).p), (⟨x901.p, v3, x901.isf, x901.kids⟩ : TNode).v, true, ((⟨x901.p, v3, x901.isf, x901.kids⟩ : TNode).kids)⟩ : TNode)) rfl (set_at hx901) rfl rfl rfl rfl rfl) rfl rfl ?_
     refine RD.done rfl ?_
     refine WK.sr mixed ?_
     iterate 2 refine GX.m rfl ?_
     refine GX.done ?_
     refine WK.ret ?_
     refine QF.ret ?_
     obtain rfl := Option.some.inj hR
     exact RetQ.ret [0, 1, 2, 3, 4] [] (.inr rfl) rfl rfl rfl (subR_cons rfl (viewO_box (viewGo_cons (viewP_own_len rfl (by simp)) (viewGo_cons rfl (viewGo_cons rfl (viewGo_cons rfl viewGo_nil))))) (subR_skip rfl (subR_skip rfl (subR_cons rfl rfl (subR_cons rfl rfl subR_nil))))) rfl .refl rfl
    ·rw [hb29]; first | replace hR := cond_t hb29 hR | (try simp only [hb29, bb] at hR)
     refine WK.condF rfl ?_
     refine WK.skip ?_
     refine WK.seq ?_
     refine WK.drawn mixed ?_
     refine RD.m rfl ?_
     iterate 2 refine RD.q (.ptr 0 0) ?_
     refine RD.q (.own 3 6 0 t0.l.length) ?_
     iterate 2 refine RD.m rfl ?_
     iterate 2 refine RD.q (.ptr 0 0) ?_
     refine RD.q (.own 3 6 0 t0.l.length) ?_
     iterate 2 refine RD.m rfl ?_
     refine RD.pure (v' := .eptr 3 6 i1.toNat 0) rfl rfl rfl (core_idxoT (c := TNode.c) (L := t0.l) (j := i1.toNat) rfl hx901j hx901l (by exact Nat.le_refl _)) rfl ?_
     refine RD.pure (v' := .eptr 3 6 i1.toNat 2) rfl rfl rfl (core_fldT (c := TNode.c) (L := t0.l) rfl (by omega) rfl) rfl ?_
     refine RD.step0 (heap' := [(0, .box [.own 3 6 0 t0.l.length, .own 4 1 0 t0.free.length, .int .i64 t0.root, .int .i64 t0.n]), (3, .row 6 69 ((t0.l.set i1.toNat (⟨x901.p, v3, x901.isf, x901.kids⟩ : TNode)).map TNode.c)), (4, .row 1 3 (t0.free.map c_i64)), (5, .box (TPrefix.c p2)), (6, .box (TPrefix.c x901.p))]) (next' := 7) rfl rfl (core_stoT (c := TNode.c) (L := t0.l) (x := x901) (x' := (⟨x901.p, v3, x901.isf, x901.kids⟩ : TNode)) rfl hx901 rfl rfl rfl rfl rfl) rfl rfl ?_
     refine RD.pure (v' := .eptr 3 6 i1.toNat 0) rfl rfl rfl (core_idxoT (c := TNode.c) (L := (t0.l.set i1.toNat (⟨x901.p, v3, x901.isf, x901.kids⟩ : TNode))) (j := i1.toNat) rfl hx901j (by first | exact hx901l | exact set_lt hx901l) (by simp)) rfl ?_
     refine RD.pure (v' := .eptr 3 6 i1.toNat 3) rfl rfl rfl (core_fldT (c := TNode.c) (L := (t0.l.set i1.toNat (⟨x901.p, v3, x901.isf, x901.kids⟩ : TNode))) rfl (by (simp only [List.length_set]; omega)) rfl) rfl ?_
     refine RD.step0 (heap' := [(0, .box [.own 3 6 0 t0.l.length, .own 4 1 0 t0.free.length, .int .i64 t0.root, .int .i64 t0.n]), (3, .row 6 69 (((t0.l.set i1.toNat (⟨x901.p, v3, x901.isf, x901.kids⟩ : TNode)).set i1.toNat (⟨((⟨x901.p, v3, x901.isf, x901.kids⟩ : TNode).p), (⟨x901.p, v3, x901.isf, x901.kids⟩ : TNode).v, true, ((⟨x901.p, v3, x901.isf, x901.kids⟩ : TNode).kids)⟩ : TNode)).map TNode.c)), (4, .row 1 3 (t0.free.map c_i64)), (5, .box (TPrefix.c p2)), (6, .box (TPrefix.c x901.p))]) (next' := 7) rfl rfl (core_stoT (c := TNode.c) (L := (t0.l.set i1.toNat (⟨x901.p, v3, x901.isf, x901.kids⟩ : TNode))) (x := (⟨x901.p, v3, x901.isf, x901.kids⟩ : TNode)) (x' := (⟨((⟨x901.p, v3, x901.isf, x901.kids⟩ : TNode).p), (⟨x901.p, v3, x901.isf, x901.kids⟩ : TNode).v, true, ((⟨x901.p, v3, x901.isf, x901.kids⟩ : TNode).kids)⟩ : TNode)) rfl (set_at hx901) rfl rfl rfl rfl rfl) rfl rfl ?_
     refine RD.done rfl ?_
     refine WK.sr mixed ?_
     iterate 2 refine GX.m rfl ?_
     refine GX.done ?_
     refine WK.ret ?_
     refine QF.ret ?_
     obtain rfl := Option.some.inj hR
     exact RetQ.ret [0, 1, 2, 3, 4] [] (.inr rfl) rfl rfl rfl (subR_cons rfl (viewO_box (viewGo_cons (viewP_own_len rfl (by simp)) (viewGo_cons rfl (viewGo_cons rfl (viewGo_cons rfl viewGo_nil))))) (subR_skip rfl (subR_skip rfl (subR_cons rfl rfl (subR_cons rfl rfl subR_nil))))) rfl .refl rfl
  ·rw [hb1]; first | replace hR := cond_t hb1 hR | (try simp only [hb1, bb] at hR)
   refine WK.condT rfl ?_
   refine WK.sr mixed ?_
   refine GX.m rfl ?_
   refine GX.q (.ptr 0 0) ?_
   refine GX.q (.ptr 0 3) ?_
   refine GX.q (.int .i64 t0.n) ?_
   refine GX.q (.int .i64 (IntKind.i64.wrap (t0.n + 1))) ?_
   refine GX.q (.ptr 0 0) ?_
   refine GX.q (.ptr 0 3) ?_
   refine GX.step0 (heap' := [(0, .box [.own 3 6 0 t0.l.length, .own 4 1 0 t0.free.length, .int .i64 t0.root, .int .i64 (IntKind.i64.wrap (t0.n + 1))]), (3, .row 6 69 (t0.l.map TNode.c)), (4, .row 1 3 (t0.free.map c_i64)), (5, .box (TPrefix.c p2))]) (next' := 6) rfl rfl rfl rfl rfl ?_
   refine GX.done ?_
   refine WK.sr mixed ?_
   refine GX.m rfl ?_
   refine GX.q (.agg (TPrefix.c p2)) ?_
   refine GX.m rfl ?_
   generalize hc26 : F42_trie_leaf p2 v3 = c26 at hR
   try dsimp only at hR
   refine GX.callp (r := .agg [.int .u32 c26.p.A, .int .i64 c26.p.N, .int .i64 c26.v, .bool c26.isf, .int .i64 c26.kids.e0, .int .i64 c26.kids.e1]) rfl rfl rfl (f42_ok p2 v3 _ hc26) rfl rfl ?_
   generalize hc27 : F41_trie_Trie_add (⟨t0.l, t0.free, t0.root, IntKind.i64.wrap (t0.n + 1)⟩ : TTrie) c26 = c27 at hR
   rcases c27 with _ | c27
   ·try dsimp only at hR
    cases hR
   try dsimp only at hR
   obtain ⟨c27a, c27b⟩ := c27; try dsimp only at hR
   refine GX.callx (r' := .int .i64 c27a) (heap' := [(0, .box [.own 6 6 0 c27b.l.length, .own 7 1 0 c27b.free.length, .int .i64 c27b.root, .int .i64 c27b.n]), (5, .box (TPrefix.c p2)), (7, .row 1 3 (c27b.free.map c_i64)), (6, .row 6 69 (c27b.l.map TNode.c))]) (next' := 8) [0, 3, 4] [] rfl rfl rfl rfl rfl rfl (f41_ok (⟨t0.l, t0.free, t0.root, IntKind.i64.wrap (t0.n + 1)⟩ : TTrie) c26 _ hc27) (.inl rfl) rfl rfl rfl ?_
   refine GX.m rfl ?_
   refine GX.done ?_
   refine WK.ret ?_
   obtain rfl := Option.some.inj hR
   exact RetQ.ret [0, 1, 2, 6, 7] [] (.inr rfl) rfl rfl rfl rfl rfl .refl rfl

theorem f10_ok (t0 : TTrie) (p1 : TPrefix) (v2 : Int) (R : Int × TTrie) (hR : F10_trie_Trie_Set t0 p1 v2 = some R) : FnOk Try.prog 10 [.ptr 0 0, .agg (TPrefix.c p1), .int .i64 v2] [(0, .box [.own 1 6 0 t0.l.length, .own 2 1 0 t0.free.length, .int .i64 t0.root, .int .i64 t0.n]), (1, .row 6 69 (t0.l.map TNode.c)), (2, .row 1 3 (t0.free.map c_i64))] 3 (.int .i64 R.1) [(0, .box [.own 3 6 0 R.2.l.length, .own 4 1 0 R.2.free.length, .int .i64 R.2.root, .int .i64 R.2.n]), (3, .row 6 69 (R.2.l.map TNode.c)), (4, .row 1 3 (R.2.free.map c_i64))] 5 := by
 refine FnOk.wk i10 rfl rfl ?_
 unfold F10_trie_Trie_Set at hR
 try dsimp only at hR
 change WK _ _ _ [ac10] _ ⟨[(0, .ptr 0 0), (1, .agg (TPrefix.c p1)), (2, .int .i64 v2)], [(0, .box [.own 1 6 0 t0.l.length, .own 2 1 0 t0.free.length, .int .i64 t0.root, .int .i64 t0.n]), (1, .row 6 69 (t0.l.map TNode.c)), (2, .row 1 3 (t0.free.map c_i64))], 3⟩
 unfold ac10
 refine WK.mvB (id := 0) (j := 0) (heap' := [(0, .box [.own 3 6 0 t0.l.length, .own 2 1 0 t0.free.length, .int .i64 t0.root, .int .i64 t0.n]), (2, .row 1 3 (t0.free.map c_i64)), (3, .row 6 69 (t0.l.map TNode.c))]) rfl rfl rfl (by simp) rfl ?_
 refine WK.mvB (id := 0) (j := 1) (heap' := [(0, .box [.own 3 6 0 t0.l.length, .own 4 1 0 t0.free.length, .int .i64 t0.root, .int .i64 t0.n]), (3, .row 6 69 (t0.l.map TNode.c)), (4, .row 1 3 (t0.free.map c_i64))]) rfl rfl rfl (by simp) rfl ?_
 refine WK.sr mixed ?_
 refine GX.step (v' := .ptr 5 0) (heap' := [(0, .box [.own 3 6 0 t0.l.length, .own 4 1 0 t0.free.length, .int .i64 t0.root, .int .i64 t0.n]), (3, .row 6 69 (t0.l.map TNode.c)), (4, .row 1 3 (t0.free.map c_i64)), (5, .box (TPrefix.c p1))]) (next' := 6) rfl rfl rfl rfl rfl rfl rfl ?_
 refine GX.m rfl ?_
 refine GX.done ?_
 refine WK.seq ?_
 refine WK.sr mixed ?_
 refine GX.m rfl ?_
 refine GX.q (.bool false) ?_
 refine GX.m rfl ?_
 refine GX.q (.agg (TPrefix.c p1)) ?_
 generalize hc13 : F30_addr_May p1 = c13 at hR
 try dsimp only at hR
 refine GX.callp (r := .bool c13) rfl rfl rfl (f30_ok p1 _ hc13) rfl rfl ?_
 iterate 2 refine GX.q (.bool (!c13)) ?_
 refine GX.done ?_
 rcases bool_two (c13) with hb1 | hb1
 ·rw [hb1]; first | replace hR := cond_f hb1 hR | (try simp only [hb1, bb] at hR)
  refine WK.condT rfl ?_
  refine WK.sr mixed ?_
  refine GX.m rfl ?_
  refine GX.done ?_
  refine WK.ret ?_
  obtain rfl := Option.some.inj hR
  exact RetQ.ret [0, 1, 2, 3, 4] [] (.inr rfl) rfl rfl rfl rfl rfl .refl rfl
 ·rw [hb1]; first | replace hR := cond_t hb1 hR | (try simp only [hb1, bb] at hR)
  refine WK.condF rfl ?_
  refine WK.skip ?_
  refine WK.seq ?_
  refine WK.sr mixed ?_
  refine GX.m rfl ?_
  refine GX.q (.agg (TPrefix.c p1)) ?_
  generalize hc19 : F25_trie_Trie_Get t0 p1 = c19 at hR
  rcases c19 with _ | c19
  ·try dsimp only at hR
   cases hR
  try dsimp only at hR
  obtain ⟨c19a, c19b⟩ := c19; try dsimp only at hR
  refine GX.callx (r' := .tup [.int .i64 c19a, .bool c19b]) (heap' := [(0, .box [.own 3 6 0 t0.l.length, .own 4 1 0 t0.free.length, .int .i64 t0.root, .int .i64 t0.n]), (3, .row 6 69 (t0.l.map TNode.c)), (4, .row 1 3 (t0.free.map c_i64)), (5, .box (TPrefix.c p1))]) (next' := 6) [0, 3, 4] [] rfl rfl rfl rfl rfl rfl (f25_ok t0 p1 _ hc19) (.inl rfl) rfl rfl rfl ?_
  refine GX.m rfl ?_
  refine GX.q (.int .i64 c19a) ?_
  refine GX.q (.bool c19b) ?_
  iterate 2 refine GX.m rfl ?_
  refine GX.done ?_
  refine WK.sr mixed ?_
  refine GX.m rfl ?_
  refine GX.q (.bool (!c19b)) ?_
  refine GX.m rfl ?_
  rcases bool_two (c19b) with hb3 | hb3
  ·rw [hb3]; first | replace hR := cond_f hb3 hR | (try simp only [hb3, bb] at hR)
   refine GX.m rfl ?_
   refine GX.q (.ptr 0 0) ?_
   refine GX.q (.ptr 0 3) ?_
   refine GX.q (.int .i64 t0.n) ?_
   iterate 2 refine GX.q (.bool (decide (5000 ≤ t0.n))) ?_
   refine GX.done ?_
   rcases bool_two (decide (5000 ≤ t0.n)) with hb4 | hb4
   ·rw [hb4]; first | replace hR := cond_f hb4 hR | (try simp only [hb4, bb] at hR)
    refine WK.condF rfl ?_
    refine WK.skip ?_
    refine WK.seq ?_
    refine WK.drawn mixed ?_
    iterate 3 refine RD.m rfl ?_
    refine RD.q (.ptr 0 0) ?_
    refine RD.q (.ptr 0 2) ?_
    refine RD.q (.int .i64 t0.root) ?_
    refine RD.q (.agg (TPrefix.c p1)) ?_
    refine RD.m rfl ?_
    generalize hc39 : F31_trie_Trie_put 100 t0 t0.root p1 v2 = c39 at hR
    rcases c39 with _ | c39
    ·try dsimp only at hR
     cases hR
    try dsimp only at hR
    obtain ⟨c39a, c39b⟩ := c39; try dsimp only at hR
    refine RD.callx (r' := .int .i64 c39a) (heap' := [(0, .box [.own 6 6 0 c39b.l.length, .own 7 1 0 c39b.free.length, .int .i64 c39b.root, .int .i64 c39b.n]), (5, .box (TPrefix.c p1)), (7, .row 1 3 (c39b.free.map c_i64)), (6, .row 6 69 (c39b.l.map TNode.c))]) (next' := 8) [0, 3, 4] [] rfl rfl rfl rfl rfl rfl (f31_ok 100 t0 t0.root p1 v2 _ hc39) (.inl rfl) rfl rfl rfl ?_
    refine RD.q (.ptr 0 0) ?_
    refine RD.q (.ptr 0 2) ?_
    refine RD.step0 (heap' := [(0, .box [.own 6 6 0 c39b.l.length, .own 7 1 0 c39b.free.length, .int .i64 c39a, .int .i64 c39b.n]), (5, .box (TPrefix.c p1)), (7, .row 1 3 (c39b.free.map c_i64)), (6, .row 6 69 (c39b.l.map TNode.c))]) (next' := 8) rfl rfl rfl rfl rfl ?_
    refine RD.done rfl ?_
    refine WK.sr mixed ?_
    refine GX.m rfl ?_
    refine GX.done ?_
    refine WK.ret ?_
    obtain rfl := Option.some.inj hR
    exact RetQ.ret [0, 1, 2, 6, 7] [] (.inr rfl) rfl rfl rfl rfl rfl .refl rfl
   ·rw [hb4]; first | replace hR := cond_t hb4 hR | (try simp only [hb4, bb] at hR)
    refine WK.condT rfl ?_
    refine WK.sr mixed ?_
    refine GX.m rfl ?_
    refine GX.done ?_
    refine WK.ret ?_
    obtain rfl := Option.some.inj hR
    exact RetQ.ret [0, 1, 2, 3, 4] [] (.inr rfl) rfl rfl rfl rfl rfl .refl rfl
  ·rw [hb3]; first | replace hR := cond_t hb3 hR | (try simp only [hb3, bb] at hR)
   iterate 5 refine GX.skip rfl rfl ?_
   refine GX.q (.bool false) ?_
   refine GX.done ?_
   refine WK.condF rfl ?_
   refine WK.skip ?_
   refine WK.seq ?_
   refine WK.drawn mixed ?_
   iterate 3 refine RD.m rfl ?_
   refine RD.q (.ptr 0 0) ?_
   refine RD.q (.ptr 0 2) ?_
   refine RD.q (.int .i64 t0.root) ?_
   refine RD.q (.agg (TPrefix.c p1)) ?_
   refine RD.m rfl ?_
   generalize hc39 : F31_trie_Trie_put 100 t0 t0.root p1 v2 = c39 at hR
   rcases c39 with _ | c39
   ·try dsimp only at hR
    cases hR
   try dsimp only at hR
   obtain ⟨c39a, c39b⟩ := c39; try dsimp only at hR
   refine RD.callx (r' := .int .i64 c39a) (heap' := [(0, .box [.own 6 6 0 c39b.l.length, .own 7 1 0 c39b.free.length, .int .i64 c39b.root, .int .i64 c39b.n]), (5, .box (TPrefix.c p1)), (7, .row 1 3 (c39b.free.map c_i64)), (6, .row 6 69 (c39b.l.map TNode.c))]) (next' := 8) [0, 3, 4] [] rfl rfl rfl rfl rfl rfl (f31_ok 100 t0 t0.root p1 v2 _ hc39) (.inl rfl) rfl rfl rfl ?_
   refine RD.q (.ptr 0 0) ?_
   refine RD.q (.ptr 0 2) ?_
   refine RD.step0 (heap' := [(0, .box [.own 6 6 0 c39b.l.length, .own 7 1 0 c39b.free.length, .int .i64 c39a, .int .i64 c39b.n]), (5, .box (TPrefix.c p1)), (7, .row 1 3 (c39b.free.map c_i64)), (6, .row 6 69 (c39b.l.map TNode.c))]) (next' := 8) rfl rfl rfl rfl rfl ?_
   refine RD.done rfl ?_
   refine WK.sr mixed ?_
   refine GX.m rfl ?_
   refine GX.done ?_
   refine WK.ret ?_
   obtain rfl := Option.some.inj hR
   exact RetQ.ret [0, 1, 2, 6, 7] [] (.inr rfl) rfl rfl rfl rfl rfl .refl rfl

theorem f11_ok (t0 : TTrie) (a1 : Int) (R : TEntry × Bool) (hR : F11_trie_Trie_Find t0 a1 = some R) : FnOk Try.prog 11 [.ptr 0 0, .int .u32 a1] [(0, .box [.own 1 6 0 t0.l.length, .own 2 1 0 t0.free.length, .int .i64 t0.root, .int .i64 t0.n]), (1, .row 6 69 (t0.l.map TNode.c)), (2, .row 1 3 (t0.free.map c_i64))] 3 (.tup [.agg (TEntry.c R.1), .bool R.2]) [(0, .box [.own 1 6 0 t0.l.length, .own 2 1 0 t0.free.length, .int .i64 t0.root, .int .i64 t0.n]), (1, .row 6 69 (t0.l.map TNode.c)), (2, .row 1 3 (t0.free.map c_i64))] 3 := by
 refine FnOk.wk i11 rfl rfl ?_
 unfold F11_trie_Trie_Find at hR
 try dsimp only at hR
 change WK _ _ _ [ac11] _ ⟨[(0, .ptr 0 0), (1, .int .u32 a1)], [(0, .box [.own 1 6 0 t0.l.length, .own 2 1 0 t0.free.length, .int .i64 t0.root, .int .i64 t0.n]), (1, .row 6 69 (t0.l.map TNode.c)), (2, .row 1 3 (t0.free.map c_i64))], 3⟩
 unfold ac11
 refine WK.sr mixed ?_
 refine GX.step (v' := .ptr 3 0) (heap' := [(0, .box [.own 1 6 0 t0.l.length, .own 2 1 0 t0.free.length, .int .i64 t0.root, .int .i64 t0.n]), (1, .row 6 69 (t0.l.map TNode.c)), (2, .row 1 3 (t0.free.map c_i64)), (3, .box [.int .u32 0, .int .i64 0, .int .i64 0])]) (next' := 4) rfl rfl rfl rfl rfl rfl rfl ?_
 refine GX.m rfl ?_
 refine GX.done ?_
 refine WK.sr mixed ?_
 iterate 2 refine GX.m rfl ?_
 refine GX.q (.agg [.int .u32 a1, .int .i64 32]) ?_
 generalize hc10 : F22_trie_Trie_Above t0 (⟨a1, 32⟩ : TPrefix) = c10 at hR
 rcases c10 with _ | c10
 ·try dsimp only at hR
  cases hR
 try dsimp only at hR
 try dsimp only at hR
 refine GX.callx (r' := .ro 3 (c10.map TEntry.c)) (heap' := [(0, .box [.own 1 6 0 t0.l.length, .own 2 1 0 t0.free.length, .int .i64 t0.root, .int .i64 t0.n]), (1, .row 6 69 (t0.l.map TNode.c)), (2, .row 1 3 (t0.free.map c_i64)), (3, .box [.int .u32 0, .int .i64 0, .int .i64 0])]) (next' := 4) [0, 1, 2] [] rfl rfl rfl rfl rfl rfl (f22_ok t0 (⟨a1, 32⟩ : TPrefix) _ hc10) (.inl rfl) rfl rfl rfl ?_
 refine GX.m rfl ?_
 refine GX.done ?_
 refine WK.seq ?_
 refine WK.sr mixed ?_
 refine GX.m rfl ?_
 refine GX.pure (v' := .int .i64 (c10.length : Int)) rfl rfl rfl rfl (len_map _ _) ?_
 refine GX.q (.bool (decide ((c10.length : Int) = 0))) ?_
 refine GX.done ?_
 rcases bool_two (decide ((c10.length : Int) = 0)) with hb2 | hb2
 ·rw [hb2]; first | replace hR := cond_f hb2 hR | (try simp only [hb2, bb] at hR)
  refine WK.condF rfl ?_
  refine WK.skip ?_
  refine WK.sr mixed ?_
  iterate 2 refine GX.m rfl ?_
  refine GX.pure (v' := .int .i64 (c10.length : Int)) rfl rfl rfl rfl (len_map _ _) ?_
  refine GX.q (.int .i64 (IntKind.i64.wrap ((c10.length : Int) - 1))) ?_
  generalize hx902 : getI c10 (IntKind.i64.wrap ((c10.length : Int) - 1)) = x902 at hR
  rcases x902 with _ | x902
  ·try dsimp only at hR
   cases hR
  try dsimp only at hR
  obtain ⟨hx9020, hx902j, hx902l, hx902⟩ := getI_some hx902
  refine GX.idxT (c := TEntry.c) (x := x902) rfl rfl rfl hx9020 hx902 ?_
  refine GX.q (.agg (TEntry.c x902)) ?_
  refine GX.step0 (heap' := [(0, .box [.own 1 6 0 t0.l.length, .own 2 1 0 t0.free.length, .int .i64 t0.root, .int .i64 t0.n]), (1, .row 6 69 (t0.l.map TNode.c)), (2, .row 1 3 (t0.free.map c_i64)), (3, .box (TEntry.c x902))]) (next' := 4) rfl rfl rfl rfl rfl ?_
  refine GX.m rfl ?_
  refine GX.done ?_
  refine WK.ret ?_
  obtain rfl := Option.some.inj hR
  exact RetQ.ret [0, 1, 2] [] (.inr rfl) rfl rfl rfl rfl rfl .refl rfl
 ·rw [hb2]; first | replace hR := cond_t hb2 hR | (try simp only [hb2, bb] at hR)
  refine WK.condT rfl ?_
  refine WK.sr mixed ?_
  refine GX.q (.agg [.int .u32 0, .int .i64 0, .int .i64 0]) ?_
  refine GX.step0 (heap' := [(0, .box [.own 1 6 0 t0.l.length, .own 2 1 0 t0.free.length, .int .i64 t0.root, .int .i64 t0.n]), (1, .row 6 69 (t0.l.map TNode.c)), (2, .row 1 3 (t0.free.map c_i64)), (3, .box [.int .u32 0, .int .i64 0, .int .i64 0])]) (next' := 4) rfl rfl rfl rfl rfl ?_
  refine GX.m rfl ?_
  refine GX.done ?_
  refine WK.ret ?_
  obtain rfl := Option.some.inj hR
  exact RetQ.ret [0, 1, 2] [] (.inr rfl) rfl rfl rfl rfl rfl .refl rfl

theorem f12_ok (R : Bool) (hR : F12_crossroadslaw06_alive = R) : FnOk Try.prog 12 [] [] 0 (.bool R) [] 0 := by
 subst hR
 exact FnOk.run_of mixed tab_ok 60 (by kernel_rfl)

theorem f13_ok (a0 : List TEntry) (b1 : List TEntry) (R : Bool) (hR : F13_crossroadsref06_Same a0 b1 = R) : FnOk Try.prog 13 [.ro 3 (a0.map TEntry.c), .ro 3 (b1.map TEntry.c)] [] 0 (.bool R) [] 0 := by
 refine FnOk.wk i13 rfl rfl ?_
 unfold F13_crossroadsref06_Same at hR
 change WK _ _ _ [ac13] _ ⟨[(0, .ro 3 (a0.map TEntry.c)), (1, .ro 3 (b1.map TEntry.c))], [], 0⟩
 unfold ac13
 refine WK.sr mixed ?_
 refine GX.m rfl ?_
 refine GX.done ?_
 refine WK.seq ?_
 refine WK.sr mixed ?_
 refine GX.m rfl ?_
 refine GX.pure (v' := .int .i64 (a0.length : Int)) rfl rfl rfl rfl (len_map _ _) ?_
 refine GX.m rfl ?_
 refine GX.pure (v' := .int .i64 (b1.length : Int)) rfl rfl rfl rfl (len_map _ _) ?_
 refine GX.q (.bool (!decide ((a0.length : Int) = (b1.length : Int)))) ?_
 refine GX.done ?_
 rcases bool_two (decide ((a0.length : Int) = (b1.length : Int))) with hb1 | hb1
 ·rw [hb1]; try simp only [hb1, bb] at hR
  refine WK.condT rfl ?_
  refine WK.sr mixed ?_
  refine GX.m rfl ?_
  refine GX.done ?_
  refine WK.ret ?_
  subst hR
  exact RetQ.fr [] (.inr rfl) rfl rfl rfl rfl
 ·rw [hb1]; try simp only [hb1, bb] at hR
  refine WK.condF rfl ?_
  refine WK.skip ?_
  refine WK.seq ?_
  refine WK.sr mixed ?_
  refine GX.m rfl ?_
  refine GX.done ?_
  refine WK.len (t := 0) rfl (by simp) (fun hlen_2 => ?_)
  rw [List.length_map] at hlen_2
  generalize hZ_2 : F13_crossroadsref06_Same_l1 b1 0 a0 = Z_2 at hR
  refine WK.forK (fun k s => ∃ (i5 : Nat), i5 ≤ a0.length ∧ k = a0.length - i5 ∧ F13_crossroadsref06_Same_l1 b1 i5 (a0.drop i5) = Z_2 ∧ s = ⟨[(0, .ro 3 (a0.map TEntry.c)), (1, .ro 3 (b1.map TEntry.c)), (5, .int .i64 (i5 : Int))], [], 0⟩) a0.length ⟨⟨[(0, .ro 3 (a0.map TEntry.c)), (1, .ro 3 (b1.map TEntry.c)), (5, .int .i64 (0 : Int))], [], 0⟩, Conv.keep [] [] [0, 1, 5] rfl rfl (viewE_cons rfl rfl (viewE_cons rfl rfl (viewE_cons rfl rfl viewE_nil))) rfl rfl, 0, (by omega), rfl, hZ_2, rfl⟩ ?_
  rintro _ _ ⟨i5, hi_2, rfl, hL_2, rfl⟩ again_2 out_2 Q_2 hagain_2 hout_2 hQ_2
  refine WK.seq ?_
  refine WK.sr mixed ?_
  iterate 2 refine GX.m rfl ?_
  refine GX.pure (v' := .int .i64 (a0.length : Int)) rfl rfl rfl rfl (len_map _ _) ?_
  refine GX.q (.bool (decide ((i5 : Int) < (a0.length : Int)))) ?_
  refine GX.done ?_
  rcases bool_two (decide ((i5 : Int) < (a0.length : Int))) with hb3 | hb3
  ·rw [hb3]
   rw [drop_end hb3, F13_crossroadsref06_Same_l1] at hL_2
   refine WK.condF rfl ?_
   refine WK.exit ?_
   refine QF.exit (hout_2 _ ?_)
   subst hL_2
   try dsimp only [cond_true, cond_false] at hR
   refine WK.sr mixed ?_
   refine GX.m rfl ?_
   refine GX.done ?_
   refine WK.ret ?_
   subst hR
   exact RetQ.fr [] (.inr rfl) rfl rfl rfl rfl
  ·rw [hb3]
   obtain ⟨x5, hx2, hd2, hlt2⟩ := drop_more hb3
   rw [hd2, F13_crossroadsref06_Same_l1] at hL_2
   refine WK.condT rfl ?_
   refine WK.skip ?_
   refine WK.seq ?_
   refine WK.blockK (fun _ hK4 => ?_)
   refine WK.seq ?_
   refine WK.drawn mixed ?_
   iterate 2 refine RD.m rfl ?_
   refine RD.idxT (c := TEntry.c) (x := x5) rfl rfl rfl (Int.natCast_nonneg _) hx2 ?_
   refine RD.q (.agg (TEntry.c x5)) ?_
   iterate 2 refine RD.m rfl ?_
   refine RD.idxT (c := TEntry.c) (x := (b1.getD i5 default)) rfl rfl rfl (Int.natCast_nonneg _) (getD_at (by ((try simp only [decide_eq_true_eq, decide_eq_false_iff_not, Bool.not_eq_true, Bool.not_eq_false] at *); first | omega | (rw [wrap64_of (by omega) (by omega)]; omega) | (unfold min_ max_; (repeat' split) <;> first | omega | (rw [wrap64_of (by omega) (by omega)]; omega))))) ?_
   refine RD.q (.agg [.int .u32 (((b1.getD i5 default).P).A), .int .i64 (((b1.getD i5 default).P).N), .int .i64 ((b1.getD i5 default).V)]) ?_
   refine RD.q (.bool (!(decide (x5.P.A = ((b1.getD i5 default).P).A) && (decide (x5.P.N = ((b1.getD i5 default).P).N) && (decide (x5.V = (b1.getD i5 default).V) && true))))) ?_
   refine RD.done rfl ?_
   rcases bool_two (decide (x5.P.A = ((b1.getD i5 default).P).A) && (decide (x5.P.N = ((b1.getD i5 default).P).N) && (decide (x5.V = (b1.getD i5 default).V) && true))) with hb5 | hb5
   ·rw [hb5]; try simp only [hb5, bb] at hL_2
    refine WK.condT rfl ?_
    refine WK.sr mixed ?_
    refine GX.m rfl ?_
    refine GX.done ?_
    refine WK.ret ?_
    refine QF.ret ?_
    refine QF.ret (hQ_2 _ _ ?_)
    subst hL_2
    subst hR
    exact RetQ.fr [] (.inr rfl) rfl rfl rfl rfl
   ·rw [hb5]; try simp only [hb5, bb] at hL_2
    refine WK.condF rfl ?_
    refine WK.skip ?_
    refine WK.nil (QF.normal (hK4 _ ?_))
    refine WK.regx mixed ?_
    refine GX.m rfl ?_
    refine GX.pure (v' := .int .i64 ((i5 + 1 : Nat) : Int)) rfl rfl rfl rfl (congrArg (PVal.int .i64) (wrap_up hlt2 hlen_2)) ?_
    refine GX.m rfl ?_
    refine GX.done ?_
    refine WK.nil (QF.normal ?_)
    exact hagain_2 _ (a0.length - (i5 + 1)) ⟨[(0, .ro 3 (a0.map TEntry.c)), (1, .ro 3 (b1.map TEntry.c)), (5, .int .i64 ((i5 + 1) : Int))], [], 0⟩ (by omega) (Conv.keep [] [] [0, 1, 5] rfl rfl (viewE_cons rfl rfl (viewE_cons rfl rfl (viewE_cons rfl rfl viewE_nil))) rfl rfl) ⟨i5 + 1, (by omega), rfl, hL_2, rfl⟩

theorem f33_ok (fuel : Nat) : ∀ (i0 : Int) (a1 : TTrie) (a2 : TPrefix) (a3 : List TEntry) (R : (List TEntry)) (hR : F33_trie_Trie_Below_1 fuel i0 a1 a2 a3 = some R), FnOk Try.prog 33 [.int .i64 i0, .ptr 6 0, .ptr 1 0, .ptr 2 0, .ptr 7 0] [(0, .box [.own 3 6 0 a1.l.length, .own 4 1 0 a1.free.length, .int .i64 a1.root, .int .i64 a1.n]), (1, .box (TPrefix.c a2)), (2, .box [.own 5 3 0 a3.length]), (3, .row 6 69 (a1.l.map TNode.c)), (4, .row 1 3 (a1.free.map c_i64)), (5, .row 3 33 (a3.map TEntry.c)), (6, .box [.ptr 0 0]), (7, .box [.fn 33 [] [.ptr 6 0, .ptr 1 0, .ptr 2 0, .ptr 7 0]])] 8 (.tup []) [(0, .box [.own 3 6 0 a1.l.length, .own 4 1 0 a1.free.length, .int .i64 a1.root, .int .i64 a1.n]), (1, .box (TPrefix.c a2)), (2, .box [.own 8 3 0 R.length]), (3, .row 6 69 (a1.l.map TNode.c)), (4, .row 1 3 (a1.free.map c_i64)), (6, .box [.ptr 0 0]), (7, .box [.fn 33 [] [.ptr 6 0, .ptr 1 0, .ptr 2 0, .ptr 7 0]]), (8, .row 3 33 (R.map TEntry.c))] 9 := by
 induction fuel with
 | zero => intro i0 a1 a2 a3 R hR; cases hR
 | succ fuel ih =>
  intro i0 a1 a2 a3 R hR
  refine FnOk.wk i33 rfl rfl ?_
  unfold F33_trie_Trie_Below_1 at hR
  try dsimp only at hR
  change WK _ _ _ [ac33] _ ⟨[(0, .int .i64 i0), (1, .ptr 6 0), (2, .ptr 1 0), (3, .ptr 2 0), (4, .ptr 7 0)], [(0, .box [.own 3 6 0 a1.l.length, .own 4 1 0 a1.free.length, .int .i64 a1.root, .int .i64 a1.n]), (1, .box (TPrefix.c a2)), (2, .box [.own 5 3 0 a3.length]), (3, .row 6 69 (a1.l.map TNode.c)), (4, .row 1 3 (a1.free.map c_i64)), (5, .row 3 33 (a3.map TEntry.c)), (6, .box [.ptr 0 0]), (7, .box [.fn 33 [] [.ptr 6 0, .ptr 1 0, .ptr 2 0, .ptr 7 0]])], 8⟩
  unfold ac33
  refine WK.mvB (id := 2) (j := 0) (heap' := [(0, .box [.own 3 6 0 a1.l.length, .own 4 1 0 a1.free.length, .int .i64 a1.root, .int .i64 a1.n]), (1, .box (TPrefix.c a2)), (2, .box [.own 8 3 0 a3.length]), (3, .row 6 69 (a1.l.map TNode.c)), (4, .row 1 3 (a1.free.map c_i64)), (6, .box [.ptr 0 0]), (7, .box [.fn 33 [] [.ptr 6 0, .ptr 1 0, .ptr 2 0, .ptr 7 0]]), (8, .row 3 33 (a3.map TEntry.c))]) rfl rfl rfl (by simp) rfl ?_
  refine WK.seq ?_
  refine WK.sr mixed ?_
  refine GX.m rfl ?_
  refine GX.q (.bool (decide (i0 = (-1)))) ?_
  refine GX.done ?_
  rcases bool_two (decide (i0 = (-1))) with hb1 | hb1
  ·rw [hb1]; first | replace hR := cond_f hb1 hR | (try simp only [hb1, bb] at hR)
   refine WK.condF rfl ?_
   refine WK.skip ?_
   refine WK.sr mixed ?_
   iterate 3 refine GX.q (.ptr 0 0) ?_
   refine GX.q (.own 3 6 0 a1.l.length) ?_
   refine GX.m rfl ?_
   generalize hx901 : getI a1.l i0 = x901 at hR
   rcases x901 with _ | x901
   ·try dsimp only at hR
    cases hR
   try dsimp only at hR
   obtain ⟨hx9010, hx901j, hx901l, hx901⟩ := getI_some hx901
   refine GX.pure (v' := .eptr 3 6 i0.toNat 0) rfl rfl rfl (core_idxoT (c := TNode.c) (L := a1.l) (j := i0.toNat) rfl hx901j hx901l (by exact Nat.le_refl _)) rfl ?_
   refine GX.pure (v' := .agg (TNode.c x901)) rfl rfl rfl (core_loaT (c := TNode.c) (L := a1.l) (x := x901) rfl hx901 rfl) rfl ?_
   refine GX.step (v' := .ptr 9 0) (heap' := [(0, .box [.own 3 6 0 a1.l.length, .own 4 1 0 a1.free.length, .int .i64 a1.root, .int .i64 a1.n]), (1, .box (TPrefix.c a2)), (2, .box [.own 8 3 0 a3.length]), (3, .row 6 69 (a1.l.map TNode.c)), (4, .row 1 3 (a1.free.map c_i64)), (6, .box [.ptr 0 0]), (7, .box [.fn 33 [] [.ptr 6 0, .ptr 1 0, .ptr 2 0, .ptr 7 0]]), (8, .row 3 33 (a3.map TEntry.c)), (9, .box [.int .u32 0, .int .i64 0, .int .i64 0, .bool false, .int .i64 0, .int .i64 0])]) (next' := 10) rfl rfl rfl rfl rfl rfl rfl ?_
   refine GX.step0 (heap' := [(0, .box [.own 3 6 0 a1.l.length, .own 4 1 0 a1.free.length, .int .i64 a1.root, .int .i64 a1.n]), (1, .box (TPrefix.c a2)), (2, .box [.own 8 3 0 a3.length]), (3, .row 6 69 (a1.l.map TNode.c)), (4, .row 1 3 (a1.free.map c_i64)), (6, .box [.ptr 0 0]), (7, .box [.fn 33 [] [.ptr 6 0, .ptr 1 0, .ptr 2 0, .ptr 7 0]]), (8, .row 3 33 (a3.map TEntry.c)), (9, .box (TNode.c x901))]) (next' := 10) rfl rfl rfl rfl rfl ?_
   refine GX.done ?_
   refine WK.seq ?_
   refine WK.sr mixed ?_
   refine GX.q (.ptr 9 3) ?_
   refine GX.q (.bool x901.isf) ?_
   refine GX.m rfl ?_
   rcases bool_two (x901.isf) with hb3 | hb3
   ·rw [hb3]; first | replace hR := cond_f hb3 hR | (try simp only [hb3, bb] at hR)
    iterate 4 refine GX.skip rfl rfl ?_
    refine GX.q (.bool false) ?_
    refine GX.done ?_
    refine WK.condF rfl ?_
    refine WK.skip ?_
    refine WK.sr mixed ?_
    refine GX.q (.agg (TPrefix.c a2)) ?_
    refine GX.q (.ptr 9 0) ?_
    refine GX.q (.agg [.int .u32 x901.p.A, .int .i64 x901.p.N]) ?_
    generalize hc35 : F34_addr_Covers a2 x901.p = c35 at hR
    try dsimp only at hR
    refine GX.callp (r := .bool c35) rfl rfl rfl (f34_ok a2 x901.p _ hc35) rfl rfl ?_
    refine GX.m rfl ?_
    rcases bool_two (c35) with hb4 | hb4
    ·rw [hb4]; first | replace hR := cond_f hb4 hR | (try simp only [hb4, bb] at hR)
     refine GX.q (.ptr 9 0) ?_
     refine GX.q (.agg [.int .u32 x901.p.A, .int .i64 x901.p.N]) ?_
     refine GX.q (.agg (TPrefix.c a2)) ?_
     generalize hc40 : F34_addr_Covers x901.p a2 = c40 at hR
     try dsimp only at hR
     refine GX.callp (r := .bool c40) rfl rfl rfl (f34_ok x901.p a2 _ hc40) rfl rfl ?_
     refine GX.q (.bool c40) ?_
     refine GX.done ?_
     rcases bool_two (c40) with hb5 | hb5
     ·rw [hb5]; first | replace hR := cond_f hb5 hR | (try simp only [hb5, bb] at hR)
      refine WK.condF rfl ?_
      refine WK.skip ?_
      refine WK.nil ?_
      obtain rfl := Option.some.inj hR
      exact RetQ.ret [0, 1, 2, 3, 4, 5, 6, 7, 8] [] (.inl rfl) rfl rfl rfl rfl rfl .refl rfl
     ·rw [hb5]; first | replace hR := cond_t hb5 hR | (try simp only [hb5, bb] at hR)
      refine WK.condT rfl ?_
      refine WK.sr mixed ?_
      refine GX.q (.fn 33 [] [.ptr 6 0, .ptr 1 0, .ptr 2 0, .ptr 7 0]) ?_
      iterate 2 refine GX.q (.ptr 9 4) ?_
      refine GX.q (.int .i64 x901.kids.e0) ?_
      generalize hc46 : F33_trie_Trie_Below_1 fuel x901.kids.e0 a1 a2 a3 = c46 at hR
      rcases c46 with _ | c46
      ·try dsimp only at hR
       cases hR
      try dsimp only at hR
      try dsimp only at hR
      refine GX.callvx (r' := .tup []) (heap' := [(0, .box [.own 3 6 0 a1.l.length, .own 4 1 0 a1.free.length, .int .i64 a1.root, .int .i64 a1.n]), (1, .box (TPrefix.c a2)), (2, .box [.own 10 3 0 c46.length]), (3, .row 6 69 (a1.l.map TNode.c)), (4, .row 1 3 (a1.free.map c_i64)), (6, .box [.ptr 0 0]), (7, .box [.fn 33 [] [.ptr 6 0, .ptr 1 0, .ptr 2 0, .ptr 7 0]]), (9, .box (TNode.c x901)), (10, .row 3 33 (c46.map TEntry.c))]) (next' := 11) [0, 1, 2, 3, 4, 8, 6, 7] [] rfl rfl rfl rfl rfl rfl (ih x901.kids.e0 a1 a2 a3 _ hc46) (.inl rfl) rfl rfl rfl ?_
      refine GX.done ?_
      refine WK.regx mixed ?_
      refine GX.q (.fn 33 [] [.ptr 6 0, .ptr 1 0, .ptr 2 0, .ptr 7 0]) ?_
      refine GX.q (.ptr 9 4) ?_
      refine GX.q (.ptr 9 5) ?_
      refine GX.q (.int .i64 x901.kids.e1) ?_
      generalize hc51 : F33_trie_Trie_Below_1 fuel x901.kids.e1 a1 a2 c46 = c51 at hR
      rcases c51 with _ | c51
      ·try dsimp only at hR
       cases hR
      try dsimp only at hR
      try dsimp only at hR
      refine GX.callvx (r' := .tup []) (heap' := [(0, .box [.own 3 6 0 a1.l.length, .own 4 1 0 a1.free.length, .int .i64 a1.root, .int .i64 a1.n]), (1, .box (TPrefix.c a2)), (2, .box [.own 11 3 0 c51.length]), (3, .row 6 69 (a1.l.map TNode.c)), (4, .row 1 3 (a1.free.map c_i64)), (6, .box [.ptr 0 0]), (7, .box [.fn 33 [] [.ptr 6 0, .ptr 1 0, .ptr 2 0, .ptr 7 0]]), (9, .box (TNode.c x901)), (11, .row 3 33 (c51.map TEntry.c))]) (next' := 12) [0, 1, 2, 3, 4, 10, 6, 7] [] rfl rfl rfl rfl rfl rfl (ih x901.kids.e1 a1 a2 c46 _ hc51) (.inl rfl) rfl rfl rfl ?_
      refine GX.done ?_
      refine WK.nil ?_
      obtain rfl := Option.some.inj hR
      exact RetQ.ret [0, 1, 2, 3, 4, 5, 6, 7, 11] [] (.inl rfl) rfl rfl rfl rfl rfl .refl rfl
    ·rw [hb4]; first | replace hR := cond_t hb4 hR | (try simp only [hb4, bb] at hR)
     iterate 4 refine GX.skip rfl rfl ?_
     refine GX.q (.bool true) ?_
     refine GX.done ?_
     refine WK.condT rfl ?_
     refine WK.sr mixed ?_
     refine GX.q (.fn 33 [] [.ptr 6 0, .ptr 1 0, .ptr 2 0, .ptr 7 0]) ?_
     iterate 2 refine GX.q (.ptr 9 4) ?_
     refine GX.q (.int .i64 x901.kids.e0) ?_
     generalize hc46 : F33_trie_Trie_Below_1 fuel x901.kids.e0 a1 a2 a3 = c46 at hR
     rcases c46 with _ | c46
     ·try dsimp only at hR
      cases hR
     try dsimp only at hR
     try dsimp only at hR
     refine GX.callvx (r' := .tup []) (heap' := [(0, .box [.own 3 6 0 a1.l.length, .own 4 1 0 a1.free.length, .int .i64 a1.root, .int .i64 a1.n]), (1, .box (TPrefix.c a2)), (2, .box [.own 10 3 0 c46.length]), (3, .row 6 69 (a1.l.map TNode.c)), (4, .row 1 3 (a1.free.map c_i64)), (6, .box [.ptr 0 0]), (7, .box [.fn 33 [] [.ptr 6 0, .ptr 1 0, .ptr 2 0, .ptr 7 0]]), (9, .box (TNode.c x901)), (10, .row 3 33 (c46.map TEntry.c))]) (next' := 11) [0, 1, 2, 3, 4, 8, 6, 7] [] rfl rfl rfl rfl rfl rfl (ih x901.kids.e0 a1 a2 a3 _ hc46) (.inl rfl) rfl rfl rfl ?_
     refine GX.done ?_
     refine WK.regx mixed ?_
     refine GX.q (.fn 33 [] [.ptr 6 0, .ptr 1 0, .ptr 2 0, .ptr 7 0]) ?_
     refine GX.q (.ptr 9 4) ?_
     refine GX.q (.ptr 9 5) ?_
     refine GX.q (.int .i64 x901.kids.e1) ?_
     generalize hc51 : F33_trie_Trie_Below_1 fuel x901.kids.e1 a1 a2 c46 = c51 at hR
     rcases c51 with _ | c51
     ·try dsimp only at hR
      cases hR
     try dsimp only at hR
     try dsimp only at hR
     refine GX.callvx (r' := .tup []) (heap' := [(0, .box [.own 3 6 0 a1.l.length, .own 4 1 0 a1.free.length, .int .i64 a1.root, .int .i64 a1.n]), (1, .box (TPrefix.c a2)), (2, .box [.own 11 3 0 c51.length]), (3, .row 6 69 (a1.l.map TNode.c)), (4, .row 1 3 (a1.free.map c_i64)), (6, .box [.ptr 0 0]), (7, .box [.fn 33 [] [.ptr 6 0, .ptr 1 0, .ptr 2 0, .ptr 7 0]]), (9, .box (TNode.c x901)), (11, .row 3 33 (c51.map TEntry.c))]) (next' := 12) [0, 1, 2, 3, 4, 10, 6, 7] [] rfl rfl rfl rfl rfl rfl (ih x901.kids.e1 a1 a2 c46 _ hc51) (.inl rfl) rfl rfl rfl ?_
     refine GX.done ?_
     refine WK.nil ?_
     obtain rfl := Option.some.inj hR
     exact RetQ.ret [0, 1, 2, 3, 4, 5, 6, 7, 11] [] (.inl rfl) rfl rfl rfl rfl rfl .refl rfl
   ·rw [hb3]; first | replace hR := cond_t hb3 hR | (try simp only [hb3, bb] at hR)
    refine GX.q (.agg (TPrefix.c a2)) ?_
    refine GX.q (.ptr 9 0) ?_
    refine GX.q (.agg [.int .u32 x901.p.A, .int .i64 x901.p.N]) ?_
    generalize hc22 : F34_addr_Covers a2 x901.p = c22 at hR
    try dsimp only at hR
    refine GX.callp (r := .bool c22) rfl rfl rfl (f34_ok a2 x901.p _ hc22) rfl rfl ?_
    refine GX.q (.bool c22) ?_
    refine GX.done ?_
    rcases bool_two (c22) with hb10 | hb10
    ·rw [hb10]; first | replace hR := cond_f hb10 hR | (try simp only [hb10, bb] at hR)
     refine WK.condF rfl ?_
     refine WK.skip ?_
     refine WK.sr mixed ?_
     refine GX.q (.agg (TPrefix.c a2)) ?_
     refine GX.q (.ptr 9 0) ?_
     refine GX.q (.agg [.int .u32 x901.p.A, .int .i64 x901.p.N]) ?_
     refine GX.callp (r := .bool c22) rfl rfl rfl (f34_ok a2 x901.p _ hc22) rfl rfl ?_
     refine GX.pure (v' := .bool false) rfl rfl rfl rfl (congrArg PVal.bool hb10) ?_
     refine GX.q (.ptr 9 0) ?_
     refine GX.q (.agg [.int .u32 x901.p.A, .int .i64 x901.p.N]) ?_
     refine GX.q (.agg (TPrefix.c a2)) ?_
     generalize hc40 : F34_addr_Covers x901.p a2 = c40 at hR
     try dsimp only at hR
     refine GX.callp (r := .bool c40) rfl rfl rfl (f34_ok x901.p a2 _ hc40) rfl rfl ?_
     refine GX.q (.bool c40) ?_
     refine GX.done ?_
     rcases bool_two (c40) with hb11 | hb11
     ·rw [hb11]; first | replace hR := cond_f hb11 hR | (try simp only [hb11, bb] at hR)
      refine WK.condF rfl ?_
      refine WK.skip ?_
      refine WK.nil ?_
      obtain rfl := Option.some.inj hR
      exact RetQ.ret [0, 1, 2, 3, 4, 5, 6, 7, 8] [] (.inl rfl) rfl rfl rfl rfl rfl .refl rfl
     ·rw [hb11]; first | replace hR := cond_t hb11 hR | (try simp only [hb11, bb] at hR)
      refine WK.condT rfl ?_
      refine WK.sr mixed ?_
      refine GX.q (.fn 33 [] [.ptr 6 0, .ptr 1 0, .ptr 2 0, .ptr 7 0]) ?_
      iterate 2 refine GX.q (.ptr 9 4) ?_
      refine GX.q (.int .i64 x901.kids.e0) ?_
      generalize hc46 : F33_trie_Trie_Below_1 fuel x901.kids.e0 a1 a2 a3 = c46 at hR
      rcases c46 with _ | c46
      ·try dsimp only at hR
       cases hR
      try dsimp only at hR
      try dsimp only at hR
      refine GX.callvx (r' := .tup []) (heap' := [(0, .box [.own 3 6 0 a1.l.length, .own 4 1 0 a1.free.length, .int .i64 a1.root, .int .i64 a1.n]), (1, .box (TPrefix.c a2)), (2, .box [.own 10 3 0 c46.length]), (3, .row 6 69 (a1.l.map TNode.c)), (4, .row 1 3 (a1.free.map c_i64)), (6, .box [.ptr 0 0]), (7, .box [.fn 33 [] [.ptr 6 0, .ptr 1 0, .ptr 2 0, .ptr 7 0]]), (9, .box (TNode.c x901)), (10, .row 3 33 (c46.map TEntry.c))]) (next' := 11) [0, 1, 2, 3, 4, 8, 6, 7] [] rfl rfl rfl rfl rfl rfl (ih x901.kids.e0 a1 a2 a3 _ hc46) (.inl rfl) rfl rfl rfl ?_
      refine GX.done ?_
      refine WK.regx mixed ?_
      refine GX.q (.fn 33 [] [.ptr 6 0, .ptr 1 0, .ptr 2 0, .ptr 7 0]) ?_
      refine GX.q (.ptr 9 4) ?_
      refine GX.q (.ptr 9 5) ?_
      refine GX.q (.int .i64 x901.kids.e1) ?_
      generalize hc51 : F33_trie_Trie_Below_1 fuel x901.kids.e1 a1 a2 c46 = c51 at hR
      rcases c51 with _ | c51
      ·try dsimp only at hR
       cases hR
      try dsimp only at hR
      try dsimp only at hR
      refine GX.callvx (r' := .tup []) (heap' := [(0, .box [.own 3 6 0 a1.l.length, .own 4 1 0 a1.free.length, .int .i64 a1.root, .int .i64 a1.n]), (1, .box (TPrefix.c a2)), (2, .box [.own 11 3 0 c51.length]), (3, .row 6 69 (a1.l.map TNode.c)), (4, .row 1 3 (a1.free.map c_i64)), (6, .box [.ptr 0 0]), (7, .box [.fn 33 [] [.ptr 6 0, .ptr 1 0, .ptr 2 0, .ptr 7 0]]), (9, .box (TNode.c x901)), (11, .row 3 33 (c51.map TEntry.c))]) (next' := 12) [0, 1, 2, 3, 4, 10, 6, 7] [] rfl rfl rfl rfl rfl rfl (ih x901.kids.e1 a1 a2 c46 _ hc51) (.inl rfl) rfl rfl rfl ?_
      refine GX.done ?_
      refine WK.nil ?_
      obtain rfl := Option.some.inj hR
      exact RetQ.ret [0, 1, 2, 3, 4, 5, 6, 7, 11] [] (.inl rfl) rfl rfl rfl rfl rfl .refl rfl
    ·rw [hb10]; first | replace hR := cond_t hb10 hR | (try simp only [hb10, bb] at hR)
     refine WK.condT rfl ?_
     refine WK.regx mixed ?_
     refine GX.q (.own 8 3 0 a3.length) ?_
     refine GX.q (.ptr 9 0) ?_
     refine GX.q (.agg [.int .u32 x901.p.A, .int .i64 x901.p.N]) ?_
     refine GX.q (.ptr 9 2) ?_
     refine GX.q (.int .i64 x901.v) ?_
     refine GX.q (.agg [.int .u32 x901.p.A, .int .i64 x901.p.N, .int .i64 x901.v]) ?_
     refine GX.step (v' := .own 10 3 0 (([(⟨x901.p, x901.v⟩ : TEntry)] : List TEntry)).length) (heap' := [(0, .box [.own 3 6 0 a1.l.length, .own 4 1 0 a1.free.length, .int .i64 a1.root, .int .i64 a1.n]), (1, .box (TPrefix.c a2)), (2, .box [.own 8 3 0 a3.length]), (3, .row 6 69 (a1.l.map TNode.c)), (4, .row 1 3 (a1.free.map c_i64)), (6, .box [.ptr 0 0]), (7, .box [.fn 33 [] [.ptr 6 0, .ptr 1 0, .ptr 2 0, .ptr 7 0]]), (8, .row 3 33 (a3.map TEntry.c)), (9, .box (TNode.c x901)), (10, .row 3 33 (([(⟨x901.p, x901.v⟩ : TEntry)] : List TEntry).map TEntry.c))]) (next' := 11) rfl rfl rfl rfl rfl rfl rfl ?_
     rcases bool_two (decide (a3.length < 1099511627776)) with hg14 | hg14
     ·simp only [hg14, bb] at hR
      try dsimp only at hR
      cases hR
     simp only [hg14, bb] at hR
     have hg14_ := of_decide_eq_true hg14
     refine GX.appT (c := TEntry.c) (L := a3) (X := ([(⟨x901.p, x901.v⟩ : TEntry)] : List TEntry)) (heap' := [(0, .box [.own 3 6 0 a1.l.length, .own 4 1 0 a1.free.length, .int .i64 a1.root, .int .i64 a1.n]), (1, .box (TPrefix.c a2)), (2, .box [.own 8 3 0 a3.length]), (3, .row 6 69 (a1.l.map TNode.c)), (4, .row 1 3 (a1.free.map c_i64)), (6, .box [.ptr 0 0]), (7, .box [.fn 33 [] [.ptr 6 0, .ptr 1 0, .ptr 2 0, .ptr 7 0]]), (9, .box (TNode.c x901)), (10, .row 3 33 (([(⟨x901.p, x901.v⟩ : TEntry)] : List TEntry).map TEntry.c)), (11, .row 3 33 ((a3 ++ ([(⟨x901.p, x901.v⟩ : TEntry)] : List TEntry)).map TEntry.c))]) (next' := 12) rfl rfl rfl rfl (elems_own rfl) (by ((try simp only [List.length_append, List.length_cons, List.length_nil, List.length_map, decide_eq_true_eq, decide_eq_false_iff_not] at *) <;> omega)) (by ((try simp only [List.length_append, List.length_cons, List.length_nil, List.length_map, decide_eq_true_eq, decide_eq_false_iff_not] at *) <;> omega)) rfl rfl rfl rfl ?_
     refine GX.step0 (heap' := [(0, .box [.own 3 6 0 a1.l.length, .own 4 1 0 a1.free.length, .int .i64 a1.root, .int .i64 a1.n]), (1, .box (TPrefix.c a2)), (2, .box [.own 11 3 0 (a3 ++ ([(⟨x901.p, x901.v⟩ : TEntry)] : List TEntry)).length]), (3, .row 6 69 (a1.l.map TNode.c)), (4, .row 1 3 (a1.free.map c_i64)), (6, .box [.ptr 0 0]), (7, .box [.fn 33 [] [.ptr 6 0, .ptr 1 0, .ptr 2 0, .ptr 7 0]]), (9, .box (TNode.c x901)), (10, .row 3 33 (([(⟨x901.p, x901.v⟩ : TEntry)] : List TEntry).map TEntry.c)), (11, .row 3 33 ((a3 ++ ([(⟨x901.p, x901.v⟩ : TEntry)] : List TEntry)).map TEntry.c))]) (next' := 12) rfl rfl rfl rfl rfl ?_
     refine GX.done ?_
     refine WK.sr mixed ?_
     refine GX.q (.agg (TPrefix.c a2)) ?_
     refine GX.q (.ptr 9 0) ?_
     refine GX.q (.agg [.int .u32 x901.p.A, .int .i64 x901.p.N]) ?_
     refine GX.callp (r := .bool c22) rfl rfl rfl (f34_ok a2 x901.p _ hc22) rfl rfl ?_
     refine GX.pure (v' := .bool true) rfl rfl rfl rfl (congrArg PVal.bool hb10) ?_
     iterate 4 refine GX.skip rfl rfl ?_
     refine GX.q (.bool true) ?_
     refine GX.done ?_
     refine WK.condT rfl ?_
     refine WK.sr mixed ?_
     refine GX.q (.fn 33 [] [.ptr 6 0, .ptr 1 0, .ptr 2 0, .ptr 7 0]) ?_
     iterate 2 refine GX.q (.ptr 9 4) ?_
     refine GX.q (.int .i64 x901.kids.e0) ?_
     generalize hc46 : F33_trie_Trie_Below_1 fuel x901.kids.e0 a1 a2 (a3 ++ ([(⟨x901.p, x901.v⟩ : TEntry)] : List TEntry)) = c46 at hR
     rcases c46 with _ | c46
     ·try dsimp only at hR
      cases hR
     try dsimp only at hR
     try dsimp only at hR
     refine GX.callvx (r' := .tup []) (heap' := [(0, .box [.own 3 6 0 a1.l.length, .own 4 1 0 a1.free.length, .int .i64 a1.root, .int .i64 a1.n]), (1, .box (TPrefix.c a2)), (2, .box [.own 12 3 0 c46.length]), (3, .row 6 69 (a1.l.map TNode.c)), (4, .row 1 3 (a1.free.map c_i64)), (6, .box [.ptr 0 0]), (7, .box [.fn 33 [] [.ptr 6 0, .ptr 1 0, .ptr 2 0, .ptr 7 0]]), (9, .box (TNode.c x901)), (10, .row 3 33 (([(⟨x901.p, x901.v⟩ : TEntry)] : List TEntry).map TEntry.c)), (12, .row 3 33 (c46.map TEntry.c))]) (next' := 13) [0, 1, 2, 3, 4, 11, 6, 7] [] rfl rfl rfl rfl rfl rfl (ih x901.kids.e0 a1 a2 (a3 ++ ([(⟨x901.p, x901.v⟩ : TEntry)] : List TEntry)) _ hc46) (.inl rfl) rfl rfl rfl ?_
     refine GX.done ?_
     refine WK.regx mixed ?_
     refine GX.q (.fn 33 [] [.ptr 6 0, .ptr 1 0, .ptr 2 0, .ptr 7 0]) ?_
     refine GX.q (.ptr 9 4) ?_
     refine GX.q (.ptr 9 5) ?_
     refine GX.q (.int .i64 x901.kids.e1) ?_
     generalize hc51 : F33_trie_Trie_Below_1 fuel x901.kids.e1 a1 a2 c46 = c51 at hR
     rcases c51 with _ | c51
     ·try dsimp only at hR
      cases hR
     try dsimp only at hR
     try dsimp only at hR
     refine GX.callvx (r' := .tup []) (heap' := [(0, .box [.own 3 6 0 a1.l.length, .own 4 1 0 a1.free.length, .int .i64 a1.root, .int .i64 a1.n]), (1, .box (TPrefix.c a2)), (2, .box [.own 13 3 0 c51.length]), (3, .row 6 69 (a1.l.map TNode.c)), (4, .row 1 3 (a1.free.map c_i64)), (6, .box [.ptr 0 0]), (7, .box [.fn 33 [] [.ptr 6 0, .ptr 1 0, .ptr 2 0, .ptr 7 0]]), (9, .box (TNode.c x901)), (10, .row 3 33 (([(⟨x901.p, x901.v⟩ : TEntry)] : List TEntry).map TEntry.c)), (13, .row 3 33 (c51.map TEntry.c))]) (next' := 14) [0, 1, 2, 3, 4, 12, 6, 7] [] rfl rfl rfl rfl rfl rfl (ih x901.kids.e1 a1 a2 c46 _ hc51) (.inl rfl) rfl rfl rfl ?_
     refine GX.done ?_
     refine WK.nil ?_
     obtain rfl := Option.some.inj hR
     exact RetQ.ret [0, 1, 2, 3, 4, 5, 6, 7, 13] [] (.inl rfl) rfl rfl rfl rfl rfl .refl rfl
  ·rw [hb1]; first | replace hR := cond_t hb1 hR | (try simp only [hb1, bb] at hR)
   refine WK.condT rfl ?_
   refine WK.ret ?_
   obtain rfl := Option.some.inj hR
   exact RetQ.ret [0, 1, 2, 3, 4, 5, 6, 7, 8] [] (.inr rfl) rfl rfl rfl rfl rfl .refl rfl

theorem f20_ok (t0 : TTrie) (p1 : TPrefix) (R : (List TEntry)) (hR : F20_trie_Trie_Below t0 p1 = some R) : FnOk Try.prog 20 [.ptr 0 0, .agg (TPrefix.c p1)] [(0, .box [.own 1 6 0 t0.l.length, .own 2 1 0 t0.free.length, .int .i64 t0.root, .int .i64 t0.n]), (1, .row 6 69 (t0.l.map TNode.c)), (2, .row 1 3 (t0.free.map c_i64))] 3 (.ro 3 (R.map TEntry.c)) [(0, .box [.own 1 6 0 t0.l.length, .own 2 1 0 t0.free.length, .int .i64 t0.root, .int .i64 t0.n]), (1, .row 6 69 (t0.l.map TNode.c)), (2, .row 1 3 (t0.free.map c_i64))] 3 := by
 refine FnOk.wk i20 rfl rfl ?_
 unfold F20_trie_Trie_Below at hR
 try dsimp only at hR
 change WK _ _ _ [ac20] _ ⟨[(0, .ptr 0 0), (1, .agg (TPrefix.c p1))], [(0, .box [.own 1 6 0 t0.l.length, .own 2 1 0 t0.free.length, .int .i64 t0.root, .int .i64 t0.n]), (1, .row 6 69 (t0.l.map TNode.c)), (2, .row 1 3 (t0.free.map c_i64))], 3⟩
 unfold ac20
 refine WK.sr mixed ?_
 refine GX.step (v' := .ptr 3 0) (heap' := [(0, .box [.own 1 6 0 t0.l.length, .own 2 1 0 t0.free.length, .int .i64 t0.root, .int .i64 t0.n]), (1, .row 6 69 (t0.l.map TNode.c)), (2, .row 1 3 (t0.free.map c_i64)), (3, .box [.ptr 0 0])]) (next' := 4) rfl rfl rfl rfl rfl rfl rfl ?_
 refine GX.step (v' := .ptr 4 0) (heap' := [(0, .box [.own 1 6 0 t0.l.length, .own 2 1 0 t0.free.length, .int .i64 t0.root, .int .i64 t0.n]), (1, .row 6 69 (t0.l.map TNode.c)), (2, .row 1 3 (t0.free.map c_i64)), (3, .box [.ptr 0 0]), (4, .box (TPrefix.c p1))]) (next' := 5) rfl rfl rfl rfl rfl rfl rfl ?_
 refine GX.m rfl ?_
 refine GX.done ?_
 refine WK.seq ?_
 refine WK.sr mixed ?_
 refine GX.q (.ptr 0 0) ?_
 refine GX.q (.bool false) ?_
 refine GX.m rfl ?_
 refine GX.q (.agg (TPrefix.c p1)) ?_
 generalize hc11 : F30_addr_May p1 = c11 at hR
 try dsimp only at hR
 refine GX.callp (r := .bool c11) rfl rfl rfl (f30_ok p1 _ hc11) rfl rfl ?_
 iterate 2 refine GX.q (.bool (!c11)) ?_
 refine GX.done ?_
 rcases bool_two (c11) with hb1 | hb1
 ·rw [hb1]; first | replace hR := cond_f hb1 hR | (try simp only [hb1, bb] at hR)
  refine WK.condT rfl ?_
  refine WK.sr mixed ?_
  refine GX.m rfl ?_
  refine GX.done ?_
  refine WK.ret ?_
  obtain rfl := Option.some.inj hR
  exact RetQ.ret [0, 1, 2] [] (.inr rfl) rfl rfl rfl rfl rfl .nil rfl
 ·rw [hb1]; first | replace hR := cond_t hb1 hR | (try simp only [hb1, bb] at hR)
  refine WK.condF rfl ?_
  refine WK.skip ?_
  refine WK.sr mixed ?_
  refine GX.step (v' := .ptr 5 0) (heap' := [(0, .box [.own 1 6 0 t0.l.length, .own 2 1 0 t0.free.length, .int .i64 t0.root, .int .i64 t0.n]), (1, .row 6 69 (t0.l.map TNode.c)), (2, .row 1 3 (t0.free.map c_i64)), (3, .box [.ptr 0 0]), (4, .box (TPrefix.c p1)), (5, .box [.nils])]) (next' := 6) rfl rfl rfl rfl rfl rfl rfl ?_
  refine GX.done ?_
  refine WK.sr mixed ?_
  refine GX.step (v' := .ptr 6 0) (heap' := [(0, .box [.own 1 6 0 t0.l.length, .own 2 1 0 t0.free.length, .int .i64 t0.root, .int .i64 t0.n]), (1, .row 6 69 (t0.l.map TNode.c)), (2, .row 1 3 (t0.free.map c_i64)), (3, .box [.ptr 0 0]), (4, .box (TPrefix.c p1)), (5, .box [.nils]), (6, .box [.nilf])]) (next' := 7) rfl rfl rfl rfl rfl rfl rfl ?_
  refine GX.done ?_
  refine WK.sr mixed ?_
  refine GX.q (.fn 33 [] [.ptr 3 0, .ptr 4 0, .ptr 5 0, .ptr 6 0]) ?_
  refine GX.step0 (heap' := [(0, .box [.own 1 6 0 t0.l.length, .own 2 1 0 t0.free.length, .int .i64 t0.root, .int .i64 t0.n]), (1, .row 6 69 (t0.l.map TNode.c)), (2, .row 1 3 (t0.free.map c_i64)), (3, .box [.ptr 0 0]), (4, .box (TPrefix.c p1)), (5, .box [.nils]), (6, .box [.fn 33 [] [.ptr 3 0, .ptr 4 0, .ptr 5 0, .ptr 6 0]])]) (next' := 7) rfl rfl rfl rfl rfl ?_
  refine GX.done ?_
  refine WK.seq ?_
  refine WK.adoptB (id := 5) (j := 0) (sz := 3) (ty := 33) (heap' := [(0, .box [.own 1 6 0 t0.l.length, .own 2 1 0 t0.free.length, .int .i64 t0.root, .int .i64 t0.n]), (1, .row 6 69 (t0.l.map TNode.c)), (2, .row 1 3 (t0.free.map c_i64)), (3, .box [.ptr 0 0]), (4, .box (TPrefix.c p1)), (5, .box [.own 7 3 0 (([] : List TEntry)).length]), (6, .box [.fn 33 [] [.ptr 3 0, .ptr 4 0, .ptr 5 0, .ptr 6 0]]), (7, .row 3 33 (([] : List TEntry).map TEntry.c))]) rfl rfl (by decide) (by simp) rfl ?_
  refine WK.drawn mixed ?_
  refine RD.q (.fn 33 [] [.ptr 3 0, .ptr 4 0, .ptr 5 0, .ptr 6 0]) ?_
  iterate 2 refine RD.q (.ptr 0 0) ?_
  refine RD.q (.ptr 0 2) ?_
  refine RD.q (.int .i64 t0.root) ?_
  generalize hc20 : F33_trie_Trie_Below_1 100 t0.root t0 p1 ([] : List TEntry) = c20 at hR
  rcases c20 with _ | c20
  ·try dsimp only at hR
   cases hR
  try dsimp only at hR
  try dsimp only at hR
  refine RD.callvx (r' := .tup []) (heap' := [(0, .box [.own 1 6 0 t0.l.length, .own 2 1 0 t0.free.length, .int .i64 t0.root, .int .i64 t0.n]), (1, .row 6 69 (t0.l.map TNode.c)), (2, .row 1 3 (t0.free.map c_i64)), (3, .box [.ptr 0 0]), (4, .box (TPrefix.c p1)), (5, .box [.own 8 3 0 c20.length]), (6, .box [.fn 33 [] [.ptr 3 0, .ptr 4 0, .ptr 5 0, .ptr 6 0]]), (8, .row 3 33 (c20.map TEntry.c))]) (next' := 9) [0, 4, 5, 1, 2, 7, 3, 6] [] rfl rfl rfl rfl rfl rfl (f33_ok 100 t0.root t0 p1 ([] : List TEntry) _ hc20) (.inl rfl) rfl rfl rfl ?_
  refine RD.done rfl ?_
  refine WK.sr mixed ?_
  refine GX.q (.own 8 3 0 c20.length) ?_
  refine GX.m rfl ?_
  refine GX.done ?_
  refine WK.ret ?_
  obtain rfl := Option.some.inj hR
  exact RetQ.ret [0, 1, 2] [8] (.inr rfl) rfl rfl rfl rfl (viewGo_cons (view_rowT rfl rfl) viewGo_nil) .refl rfl

theorem f14_ok (t0 : TTrie) (R : (List TEntry)) (hR : F14_trie_Trie_Walk t0 = some R) : FnOk Try.prog 14 [.ptr 0 0] [(0, .box [.own 1 6 0 t0.l.length, .own 2 1 0 t0.free.length, .int .i64 t0.root, .int .i64 t0.n]), (1, .row 6 69 (t0.l.map TNode.c)), (2, .row 1 3 (t0.free.map c_i64))] 3 (.ro 3 (R.map TEntry.c)) [(0, .box [.own 1 6 0 t0.l.length, .own 2 1 0 t0.free.length, .int .i64 t0.root, .int .i64 t0.n]), (1, .row 6 69 (t0.l.map TNode.c)), (2, .row 1 3 (t0.free.map c_i64))] 3 := by
 refine FnOk.wk i14 rfl rfl ?_
 unfold F14_trie_Trie_Walk at hR
 try dsimp only at hR
 change WK _ _ _ [ac14] _ ⟨[(0, .ptr 0 0)], [(0, .box [.own 1 6 0 t0.l.length, .own 2 1 0 t0.free.length, .int .i64 t0.root, .int .i64 t0.n]), (1, .row 6 69 (t0.l.map TNode.c)), (2, .row 1 3 (t0.free.map c_i64))], 3⟩
 unfold ac14
 refine WK.sr mixed ?_
 refine GX.m rfl ?_
 refine GX.done ?_
 refine WK.sr mixed ?_
 refine GX.m rfl ?_
 refine GX.q (.agg [.int .u32 0, .int .i64 0]) ?_
 generalize hc5 : F20_trie_Trie_Below t0 (⟨0, 0⟩ : TPrefix) = c5 at hR
 rcases c5 with _ | c5
 ·try dsimp only at hR
  cases hR
 try dsimp only at hR
 try dsimp only at hR
 refine GX.callx (r' := .ro 3 (c5.map TEntry.c)) (heap' := [(0, .box [.own 1 6 0 t0.l.length, .own 2 1 0 t0.free.length, .int .i64 t0.root, .int .i64 t0.n]), (1, .row 6 69 (t0.l.map TNode.c)), (2, .row 1 3 (t0.free.map c_i64))]) (next' := 3) [0, 1, 2] [] rfl rfl rfl rfl rfl rfl (f20_ok t0 (⟨0, 0⟩ : TPrefix) _ hc5) (.inl rfl) rfl rfl rfl ?_
 refine GX.m rfl ?_
 refine GX.done ?_
 refine WK.ret ?_
 obtain rfl := Option.some.inj hR
 exact RetQ.ret [0, 1, 2] [] (.inr rfl) rfl rfl rfl rfl rfl .refl rfl

theorem f15_ok (t0 : TTrie) (R : Int) (hR : F15_trie_Trie_Len t0 = R) : FnOk Try.prog 15 [.ptr 0 0] [(0, .box [.own 1 6 0 t0.l.length, .own 2 1 0 t0.free.length, .int .i64 t0.root, .int .i64 t0.n]), (1, .row 6 69 (t0.l.map TNode.c)), (2, .row 1 3 (t0.free.map c_i64))] 3 (.int .i64 R) [(0, .box [.own 1 6 0 t0.l.length, .own 2 1 0 t0.free.length, .int .i64 t0.root, .int .i64 t0.n]), (1, .row 6 69 (t0.l.map TNode.c)), (2, .row 1 3 (t0.free.map c_i64))] 3 := by
 refine FnOk.wk i15 rfl rfl ?_
 unfold F15_trie_Trie_Len at hR
 change WK _ _ _ [ac15] _ ⟨[(0, .ptr 0 0)], [(0, .box [.own 1 6 0 t0.l.length, .own 2 1 0 t0.free.length, .int .i64 t0.root, .int .i64 t0.n]), (1, .row 6 69 (t0.l.map TNode.c)), (2, .row 1 3 (t0.free.map c_i64))], 3⟩
 unfold ac15
 refine WK.sr mixed ?_
 refine GX.m rfl ?_
 refine GX.done ?_
 refine WK.seq ?_
 refine WK.sr mixed ?_
 refine GX.m rfl ?_
 refine GX.q (.bool false) ?_
 refine GX.done ?_
 refine WK.condF rfl ?_
 refine WK.skip ?_
 refine WK.sr mixed ?_
 refine GX.m rfl ?_
 refine GX.q (.ptr 0 0) ?_
 refine GX.q (.ptr 0 3) ?_
 refine GX.q (.int .i64 t0.n) ?_
 refine GX.m rfl ?_
 refine GX.done ?_
 refine WK.ret ?_
 subst hR
 exact RetQ.ret [0, 1, 2] [] (.inr rfl) rfl rfl rfl rfl rfl .refl rfl

theorem f3_ok (script0 : List TAct) (a1 : Int) (R : Bool) (hR : F3_crossroadslaw06_TrieAlike script0 a1 = some R) : FnOk Try.prog 3 [.ro 5 (script0.map TAct.c), .int .u32 a1] [] 0 (.bool R) [] 0 := by
 refine FnOk.wk i3 rfl rfl ?_
 unfold F3_crossroadslaw06_TrieAlike at hR
 try dsimp only at hR
 change WK _ _ _ [ac3] _ ⟨[(0, .ro 5 (script0.map TAct.c)), (1, .int .u32 a1)], [], 0⟩
 unfold ac3
 refine WK.sr mixed ?_
 refine GX.m rfl ?_
 refine GX.done ?_
 refine WK.sr mixed ?_
 generalize hc13 : F9_trie_New = c13 at hR
 try dsimp only at hR
 refine GX.callx (r' := .ptr 0 0) (heap' := [(2, .row 1 3 (c13.free.map c_i64)), (1, .row 6 69 (c13.l.map TNode.c)), (0, .box [.own 1 6 0 c13.l.length, .own 2 1 0 c13.free.length, .int .i64 c13.root, .int .i64 c13.n])]) (next' := 3) [] [] rfl rfl rfl rfl rfl rfl (f9_ok  _ hc13) (.inl rfl) rfl rfl rfl ?_
 refine GX.callx (r' := .ptr 3 0) (heap' := [(2, .row 1 3 (c13.free.map c_i64)), (1, .row 6 69 (c13.l.map TNode.c)), (0, .box [.own 1 6 0 c13.l.length, .own 2 1 0 c13.free.length, .int .i64 c13.root, .int .i64 c13.n]), (5, .row 1 3 (c13.free.map c_i64)), (4, .row 6 69 (c13.l.map TNode.c)), (3, .box [.own 4 6 0 c13.l.length, .own 5 1 0 c13.free.length, .int .i64 c13.root, .int .i64 c13.n])]) (next' := 6) [] [] rfl rfl rfl rfl rfl rfl (f9_ok  _ hc13) (.inl rfl) rfl rfl rfl ?_
 iterate 2 refine GX.m rfl ?_
 refine GX.done ?_
 refine WK.seq ?_
 refine WK.sr mixed ?_
 refine GX.m rfl ?_
 refine GX.q (.bool false) ?_
 iterate 2 refine GX.m rfl ?_
 iterate 2 refine GX.q (.bool false) ?_
 refine GX.done ?_
 refine WK.condF rfl ?_
 refine WK.skip ?_
 refine WK.sr mixed ?_
 refine GX.m rfl ?_
 refine GX.pure (v' := .int .i64 (script0.length : Int)) rfl rfl rfl rfl (len_map _ _) ?_
 refine GX.q (.int .i64 (min_ (script0.length : Int) 150)) ?_
 refine GX.m rfl ?_
 refine GX.done ?_
 refine WK.seq ?_
 refine WK.sr mixed ?_
 refine GX.m rfl ?_
 refine GX.done ?_
 refine WK.len (t := 0) rfl (by simp) (fun hln0_17 => ?_)
 rw [List.length_map] at hln0_17
 generalize hZ_17 : F3_crossroadslaw06_TrieAlike_l1 script0 (fuelUp 0 (min_ (script0.length : Int) 150)) c13.root c13.n c13.l c13.free c13.root c13.n c13.l c13.free 0 = Z_17 at hR
 refine WK.forK (fun k s => ∃ (i8 : Int) (t_2_5 : Int) (t_3_5 : Int) (row1 : List TNode) (row2 : List Int) (u_2_6 : Int) (u_3_6 : Int) (row4 : List TNode) (row5 : List Int), fuelUp i8 (min_ (script0.length : Int) 150) ≤ k ∧ 0 ≤ i8 ∧ F3_crossroadslaw06_TrieAlike_l1 script0 k t_2_5 t_3_5 row1 row2 u_2_6 u_3_6 row4 row5 i8 = Z_17 ∧ s = ⟨[(0, .ro 5 (script0.map TAct.c)), (1, .int .u32 a1), (5, .ptr 0 0), (6, .ptr 3 0), (7, .int .i64 (min_ (script0.length : Int) 150)), (8, .int .i64 i8)], [(0, .box [.own 1 6 0 row1.length, .own 2 1 0 row2.length, .int .i64 t_2_5, .int .i64 t_3_5]), (1, .row 6 69 (row1.map TNode.c)), (2, .row 1 3 (row2.map c_i64)), (3, .box [.own 4 6 0 row4.length, .own 5 1 0 row5.length, .int .i64 u_2_6, .int .i64 u_3_6]), (4, .row 6 69 (row4.map TNode.c)), (5, .row 1 3 (row5.map c_i64))], 6⟩) (fuelUp 0 (min_ (script0.length : Int) 150)) ⟨⟨[(0, .ro 5 (script0.map TAct.c)), (1, .int .u32 a1), (5, .ptr 0 0), (6, .ptr 3 0), (7, .int .i64 (min_ (script0.length : Int) 150)), (8, .int .i64 0)], [(0, .box [.own 1 6 0 c13.l.length, .own 2 1 0 c13.free.length, .int .i64 c13.root, .int .i64 c13.n]), (1, .row 6 69 (c13.l.map TNode.c)), (2, .row 1 3 (c13.free.map c_i64)), (3, .box [.own 4 6 0 c13.l.length, .own 5 1 0 c13.free.length, .int .i64 c13.root, .int .i64 c13.n]), (4, .row 6 69 (c13.l.map TNode.c)), (5, .row 1 3 (c13.free.map c_i64))], 6⟩, Conv.keep [0, 1, 2, 3, 4, 5] [] [0, 1, 5, 6, 7, 8] rfl rfl (viewE_cons rfl rfl (viewE_cons rfl rfl (viewE_cons rfl rfl (viewE_cons rfl rfl (viewE_cons rfl rfl (viewE_cons rfl rfl viewE_nil)))))) rfl rfl, 0, c13.root, c13.n, c13.l, c13.free, c13.root, c13.n, c13.l, c13.free, Nat.le_refl _, (by omega), hZ_17, rfl⟩ ?_
 rintro k17 _ ⟨i8, t_2_5, t_3_5, row1, row2, u_2_6, u_3_6, row4, row5, hfu17, hinv17_c0, hL_17, rfl⟩ again_17 out_17 Q_17 hagain_17 hout_17 hQ_17
 refine WK.seq ?_
 refine WK.sr mixed ?_
 iterate 2 refine GX.m rfl ?_
 refine GX.q (.bool (decide (i8 < min_ (script0.length : Int) 150))) ?_
 refine GX.done ?_
 rcases bool_two (decide (i8 < min_ (script0.length : Int) 150)) with hb18 | hb18
 ·rw [hb18]
  unfold F3_crossroadslaw06_TrieAlike_l1 at hL_17; rw [hb18, cond_false] at hL_17
  refine WK.condF rfl ?_
  refine WK.exit ?_
  refine QF.exit (hout_17 _ ?_)
  subst hL_17
  try dsimp only [cond_true, cond_false] at hR
  refine WK.sr mixed ?_
  iterate 2 refine GX.m rfl ?_
  generalize hc59 : F11_trie_Trie_Find (⟨row1, row2, t_2_5, t_3_5⟩ : TTrie) a1 = c59 at hR
  rcases c59 with _ | c59
  ·try dsimp only at hR
   cases hR
  try dsimp only at hR
  obtain ⟨c59a, c59b⟩ := c59; try dsimp only at hR
  refine GX.callx (r' := .tup [.agg (TEntry.c c59a), .bool c59b]) (heap' := [(0, .box [.own 1 6 0 row1.length, .own 2 1 0 row2.length, .int .i64 t_2_5, .int .i64 t_3_5]), (1, .row 6 69 (row1.map TNode.c)), (2, .row 1 3 (row2.map c_i64)), (3, .box [.own 4 6 0 row4.length, .own 5 1 0 row5.length, .int .i64 u_2_6, .int .i64 u_3_6]), (4, .row 6 69 (row4.map TNode.c)), (5, .row 1 3 (row5.map c_i64))]) (next' := 6) [0, 1, 2] [] rfl rfl rfl rfl rfl rfl (f11_ok (⟨row1, row2, t_2_5, t_3_5⟩ : TTrie) a1 _ hc59) (.inl rfl) rfl rfl rfl ?_
  refine GX.m rfl ?_
  refine GX.q (.agg (TEntry.c c59a)) ?_
  refine GX.q (.bool c59b) ?_
  refine GX.step (v' := .ptr 6 0) (heap' := [(0, .box [.own 1 6 0 row1.length, .own 2 1 0 row2.length, .int .i64 t_2_5, .int .i64 t_3_5]), (1, .row 6 69 (row1.map TNode.c)), (2, .row 1 3 (row2.map c_i64)), (3, .box [.own 4 6 0 row4.length, .own 5 1 0 row5.length, .int .i64 u_2_6, .int .i64 u_3_6]), (4, .row 6 69 (row4.map TNode.c)), (5, .row 1 3 (row5.map c_i64)), (6, .box [.int .u32 0, .int .i64 0, .int .i64 0])]) (next' := 7) rfl rfl rfl rfl rfl rfl rfl ?_
  refine GX.step0 (heap' := [(0, .box [.own 1 6 0 row1.length, .own 2 1 0 row2.length, .int .i64 t_2_5, .int .i64 t_3_5]), (1, .row 6 69 (row1.map TNode.c)), (2, .row 1 3 (row2.map c_i64)), (3, .box [.own 4 6 0 row4.length, .own 5 1 0 row5.length, .int .i64 u_2_6, .int .i64 u_3_6]), (4, .row 6 69 (row4.map TNode.c)), (5, .row 1 3 (row5.map c_i64)), (6, .box (TEntry.c c59a))]) (next' := 7) rfl rfl rfl rfl rfl ?_
  refine GX.m rfl ?_
  refine GX.done ?_
  refine WK.sr mixed ?_
  iterate 2 refine GX.m rfl ?_
  generalize hc65 : F11_trie_Trie_Find (⟨row4, row5, u_2_6, u_3_6⟩ : TTrie) a1 = c65 at hR
  rcases c65 with _ | c65
  ·try dsimp only at hR
   cases hR
  try dsimp only at hR
  obtain ⟨c65a, c65b⟩ := c65; try dsimp only at hR
  refine GX.callx (r' := .tup [.agg (TEntry.c c65a), .bool c65b]) (heap' := [(0, .box [.own 1 6 0 row1.length, .own 2 1 0 row2.length, .int .i64 t_2_5, .int .i64 t_3_5]), (1, .row 6 69 (row1.map TNode.c)), (2, .row 1 3 (row2.map c_i64)), (3, .box [.own 4 6 0 row4.length, .own 5 1 0 row5.length, .int .i64 u_2_6, .int .i64 u_3_6]), (4, .row 6 69 (row4.map TNode.c)), (5, .row 1 3 (row5.map c_i64)), (6, .box (TEntry.c c59a))]) (next' := 7) [3, 4, 5] [] rfl rfl rfl rfl rfl rfl (f11_ok (⟨row4, row5, u_2_6, u_3_6⟩ : TTrie) a1 _ hc65) (.inl rfl) rfl rfl rfl ?_
  refine GX.m rfl ?_
  refine GX.q (.agg (TEntry.c c65a)) ?_
  refine GX.q (.bool c65b) ?_
  refine GX.step (v' := .ptr 7 0) (heap' := [(0, .box [.own 1 6 0 row1.length, .own 2 1 0 row2.length, .int .i64 t_2_5, .int .i64 t_3_5]), (1, .row 6 69 (row1.map TNode.c)), (2, .row 1 3 (row2.map c_i64)), (3, .box [.own 4 6 0 row4.length, .own 5 1 0 row5.length, .int .i64 u_2_6, .int .i64 u_3_6]), (4, .row 6 69 (row4.map TNode.c)), (5, .row 1 3 (row5.map c_i64)), (6, .box (TEntry.c c59a)), (7, .box [.int .u32 0, .int .i64 0, .int .i64 0])]) (next' := 8) rfl rfl rfl rfl rfl rfl rfl ?_
  refine GX.step0 (heap' := [(0, .box [.own 1 6 0 row1.length, .own 2 1 0 row2.length, .int .i64 t_2_5, .int .i64 t_3_5]), (1, .row 6 69 (row1.map TNode.c)), (2, .row 1 3 (row2.map c_i64)), (3, .box [.own 4 6 0 row4.length, .own 5 1 0 row5.length, .int .i64 u_2_6, .int .i64 u_3_6]), (4, .row 6 69 (row4.map TNode.c)), (5, .row 1 3 (row5.map c_i64)), (6, .box (TEntry.c c59a)), (7, .box (TEntry.c c65a))]) (next' := 8) rfl rfl rfl rfl rfl ?_
  refine GX.m rfl ?_
  refine GX.done ?_
  refine WK.sr mixed ?_
  generalize hc68 : F12_crossroadslaw06_alive = c68 at hR
  try dsimp only at hR
  refine GX.callp (r := .bool c68) rfl rfl rfl (f12_ok  _ hc68) rfl rfl ?_
  refine GX.m rfl ?_
  rcases bool_two (c68) with hb21 | hb21
  ·rw [hb21]; first | replace hR := cond_f hb21 hR | (try simp only [hb21, bb] at hR)
   iterate 5 refine GX.skip rfl rfl ?_
   refine GX.q (.bool false) ?_
   refine GX.m rfl ?_
   iterate 3 refine GX.skip rfl rfl ?_
   refine GX.q (.bool false) ?_
   refine GX.m rfl ?_
   iterate 3 refine GX.skip rfl rfl ?_
   refine GX.q (.bool false) ?_
   refine GX.m rfl ?_
   iterate 5 refine GX.skip rfl rfl ?_
   refine GX.q (.bool false) ?_
   refine GX.m rfl ?_
   refine GX.done ?_
   refine WK.ret ?_
   obtain rfl := Option.some.inj hR
   exact RetQ.fr [] (.inr rfl) rfl rfl rfl rfl
  ·rw [hb21]; first | replace hR := cond_t hb21 hR | (try simp only [hb21, bb] at hR)
   refine GX.m rfl ?_
   generalize hc71 : F14_trie_Trie_Walk (⟨row1, row2, t_2_5, t_3_5⟩ : TTrie) = c71 at hR
   rcases c71 with _ | c71
   ·try dsimp only at hR
    cases hR
   try dsimp only at hR
   try dsimp only at hR
   refine GX.callx (r' := .ro 3 (c71.map TEntry.c)) (heap' := [(0, .box [.own 1 6 0 row1.length, .own 2 1 0 row2.length, .int .i64 t_2_5, .int .i64 t_3_5]), (1, .row 6 69 (row1.map TNode.c)), (2, .row 1 3 (row2.map c_i64)), (3, .box [.own 4 6 0 row4.length, .own 5 1 0 row5.length, .int .i64 u_2_6, .int .i64 u_3_6]), (4, .row 6 69 (row4.map TNode.c)), (5, .row 1 3 (row5.map c_i64)), (6, .box (TEntry.c c59a)), (7, .box (TEntry.c c65a))]) (next' := 8) [0, 1, 2] [] rfl rfl rfl rfl rfl rfl (f14_ok (⟨row1, row2, t_2_5, t_3_5⟩ : TTrie) _ hc71) (.inl rfl) rfl rfl rfl ?_
   refine GX.m rfl ?_
   generalize hc73 : F14_trie_Trie_Walk (⟨row4, row5, u_2_6, u_3_6⟩ : TTrie) = c73 at hR
   rcases c73 with _ | c73
   ·try dsimp only at hR
    cases hR
   try dsimp only at hR
   try dsimp only at hR
   refine GX.callx (r' := .ro 3 (c73.map TEntry.c)) (heap' := [(0, .box [.own 1 6 0 row1.length, .own 2 1 0 row2.length, .int .i64 t_2_5, .int .i64 t_3_5]), (1, .row 6 69 (row1.map TNode.c)), (2, .row 1 3 (row2.map c_i64)), (3, .box [.own 4 6 0 row4.length, .own 5 1 0 row5.length, .int .i64 u_2_6, .int .i64 u_3_6]), (4, .row 6 69 (row4.map TNode.c)), (5, .row 1 3 (row5.map c_i64)), (6, .box (TEntry.c c59a)), (7, .box (TEntry.c c65a))]) (next' := 8) [3, 4, 5] [] rfl rfl rfl rfl rfl rfl (f14_ok (⟨row4, row5, u_2_6, u_3_6⟩ : TTrie) _ hc73) (.inl rfl) rfl rfl rfl ?_
   generalize hc74 : F13_crossroadsref06_Same c71 c73 = c74 at hR
   try dsimp only at hR
   refine GX.callp (r := .bool c74) rfl rfl rfl (f13_ok c71 c73 _ hc74) rfl rfl ?_
   refine GX.q (.bool c74) ?_
   refine GX.m rfl ?_
   rcases bool_two (c74) with hb24 | hb24
   ·rw [hb24]; first | replace hR := cond_f hb24 hR | (try simp only [hb24, bb] at hR)
    iterate 3 refine GX.skip rfl rfl ?_
    refine GX.q (.bool false) ?_
    refine GX.m rfl ?_
    iterate 3 refine GX.skip rfl rfl ?_
    refine GX.q (.bool false) ?_
    refine GX.m rfl ?_
    iterate 5 refine GX.skip rfl rfl ?_
    refine GX.q (.bool false) ?_
    refine GX.m rfl ?_
    refine GX.done ?_
    refine WK.ret ?_
    obtain rfl := Option.some.inj hR
    exact RetQ.fr [] (.inr rfl) rfl rfl rfl rfl
   ·rw [hb24]; first | replace hR := cond_t hb24 hR | (try simp only [hb24, bb] at hR)
    refine GX.q (.agg (TEntry.c c59a)) ?_
    refine GX.q (.agg (TEntry.c c65a)) ?_
    iterate 2 refine GX.q (.bool (decide (c59a.P.A = c65a.P.A) && (decide (c59a.P.N = c65a.P.N) && (decide (c59a.V = c65a.V) && true)))) ?_
    refine GX.m rfl ?_
    rcases bool_two ((decide (c59a.P.A = c65a.P.A) && (decide (c59a.P.N = c65a.P.N) && (decide (c59a.V = c65a.V) && true)))) with hb25 | hb25
    ·rw [hb25]; try simp only [hb25, bb] at hR
     iterate 3 refine GX.skip rfl rfl ?_
     refine GX.q (.bool false) ?_
     refine GX.m rfl ?_
     iterate 5 refine GX.skip rfl rfl ?_
     refine GX.q (.bool false) ?_
     refine GX.m rfl ?_
     refine GX.done ?_
     refine WK.ret ?_
     obtain rfl := Option.some.inj hR
     exact RetQ.fr [] (.inr rfl) rfl rfl rfl rfl
    ·rw [hb25]; try simp only [hb25, bb] at hR
     iterate 2 refine GX.m rfl ?_
     iterate 2 refine GX.q (.bool (c59b == c65b)) ?_
     refine GX.m rfl ?_
     rcases bool_two ((c59b == c65b)) with hb26 | hb26
     ·rw [hb26]; try simp only [hb26, bb] at hR
      iterate 5 refine GX.skip rfl rfl ?_
      refine GX.q (.bool false) ?_
      refine GX.m rfl ?_
      refine GX.done ?_
      refine WK.ret ?_
      obtain rfl := Option.some.inj hR
      exact RetQ.fr [] (.inr rfl) rfl rfl rfl rfl
     ·rw [hb26]; try simp only [hb26, bb] at hR
      refine GX.m rfl ?_
      generalize hc88 : F15_trie_Trie_Len (⟨row1, row2, t_2_5, t_3_5⟩ : TTrie) = c88 at hR
      try dsimp only at hR
      refine GX.callx (r' := .int .i64 c88) (heap' := [(0, .box [.own 1 6 0 row1.length, .own 2 1 0 row2.length, .int .i64 t_2_5, .int .i64 t_3_5]), (1, .row 6 69 (row1.map TNode.c)), (2, .row 1 3 (row2.map c_i64)), (3, .box [.own 4 6 0 row4.length, .own 5 1 0 row5.length, .int .i64 u_2_6, .int .i64 u_3_6]), (4, .row 6 69 (row4.map TNode.c)), (5, .row 1 3 (row5.map c_i64)), (6, .box (TEntry.c c59a)), (7, .box (TEntry.c c65a))]) (next' := 8) [0, 1, 2] [] rfl rfl rfl rfl rfl rfl (f15_ok (⟨row1, row2, t_2_5, t_3_5⟩ : TTrie) _ hc88) (.inl rfl) rfl rfl rfl ?_
      refine GX.m rfl ?_
      generalize hc90 : F15_trie_Trie_Len (⟨row4, row5, u_2_6, u_3_6⟩ : TTrie) = c90 at hR
      try dsimp only at hR
      refine GX.callx (r' := .int .i64 c90) (heap' := [(0, .box [.own 1 6 0 row1.length, .own 2 1 0 row2.length, .int .i64 t_2_5, .int .i64 t_3_5]), (1, .row 6 69 (row1.map TNode.c)), (2, .row 1 3 (row2.map c_i64)), (3, .box [.own 4 6 0 row4.length, .own 5 1 0 row5.length, .int .i64 u_2_6, .int .i64 u_3_6]), (4, .row 6 69 (row4.map TNode.c)), (5, .row 1 3 (row5.map c_i64)), (6, .box (TEntry.c c59a)), (7, .box (TEntry.c c65a))]) (next' := 8) [3, 4, 5] [] rfl rfl rfl rfl rfl rfl (f15_ok (⟨row4, row5, u_2_6, u_3_6⟩ : TTrie) _ hc90) (.inl rfl) rfl rfl rfl ?_
      iterate 2 refine GX.q (.bool (decide (c88 = c90))) ?_
      refine GX.m rfl ?_
      refine GX.done ?_
      refine WK.ret ?_
      obtain rfl := Option.some.inj hR
      exact RetQ.fr [] (.inr rfl) rfl rfl rfl rfl
 ·rw [hb18]
  obtain ⟨f17, rfl⟩ := fuel_pos hb18 hfu17
  unfold F3_crossroadslaw06_TrieAlike_l1 at hL_17; rw [hb18, cond_true] at hL_17; dsimp only at hL_17
  refine WK.condT rfl ?_
  refine WK.skip ?_
  refine WK.seq ?_
  refine WK.blockK (fun _ hK29 => ?_)
  refine WK.sr mixed ?_
  iterate 3 refine GX.m rfl ?_
  generalize hx929 : getI script0 i8 = x929 at hL_17
  rcases x929 with _ | x929
  ·try dsimp only at hL_17
   subst hL_17
   try dsimp only at hR
   cases hR
  try dsimp only at hL_17
  obtain ⟨hx9290, hx929j, hx929l, hx929⟩ := getI_some hx929
  refine GX.idxT (c := TAct.c) (x := x929) rfl rfl rfl hx9290 hx929 ?_
  refine GX.q (.rptr [.int .u32 x929.P.A, .int .i64 x929.P.N, .int .i64 x929.V, .int .u32 x929.A]) ?_
  refine GX.q (.agg [.int .u32 x929.P.A, .int .i64 x929.P.N]) ?_
  generalize hc35 : F10_trie_Trie_Set (⟨row1, row2, t_2_5, t_3_5⟩ : TTrie) x929.P 7 = c35 at hL_17
  rcases c35 with _ | c35
  ·try dsimp only at hL_17
   subst hL_17
   try dsimp only at hR
   cases hR
  try dsimp only at hL_17
  obtain ⟨c35a, c35b⟩ := c35; try dsimp only at hL_17
  refine GX.callx (r' := .int .i64 c35a) (heap' := [(0, .box [.own 6 6 0 c35b.l.length, .own 7 1 0 c35b.free.length, .int .i64 c35b.root, .int .i64 c35b.n]), (3, .box [.own 4 6 0 row4.length, .own 5 1 0 row5.length, .int .i64 u_2_6, .int .i64 u_3_6]), (4, .row 6 69 (row4.map TNode.c)), (5, .row 1 3 (row5.map c_i64)), (7, .row 1 3 (c35b.free.map c_i64)), (6, .row 6 69 (c35b.l.map TNode.c))]) (next' := 8) [0, 1, 2] [] rfl rfl rfl rfl rfl rfl (f10_ok (⟨row1, row2, t_2_5, t_3_5⟩ : TTrie) x929.P 7 _ hc35) (.inl rfl) rfl rfl rfl ?_
  refine GX.done ?_
  refine WK.sr mixed ?_
  iterate 3 refine GX.m rfl ?_
  refine GX.q (.int .i64 (IntKind.i64.wrap ((min_ (script0.length : Int) 150) - 1))) ?_
  refine GX.m rfl ?_
  refine GX.q (.int .i64 (IntKind.i64.wrap ((IntKind.i64.wrap ((min_ (script0.length : Int) 150) - 1)) - i8))) ?_
  generalize hx931 : getI script0 (IntKind.i64.wrap ((IntKind.i64.wrap ((min_ (script0.length : Int) 150) - 1)) - i8)) = x931 at hL_17
  rcases x931 with _ | x931
  ·try dsimp only at hL_17
   subst hL_17
   try dsimp only at hR
   cases hR
  try dsimp only at hL_17
  obtain ⟨hx9310, hx931j, hx931l, hx931⟩ := getI_some hx931
  refine GX.idxT (c := TAct.c) (x := x931) rfl rfl rfl hx9310 hx931 ?_
  refine GX.q (.rptr [.int .u32 x931.P.A, .int .i64 x931.P.N, .int .i64 x931.V, .int .u32 x931.A]) ?_
  refine GX.q (.agg [.int .u32 x931.P.A, .int .i64 x931.P.N]) ?_
  generalize hc45 : F10_trie_Trie_Set (⟨row4, row5, u_2_6, u_3_6⟩ : TTrie) x931.P 7 = c45 at hL_17
  rcases c45 with _ | c45
  ·try dsimp only at hL_17
   subst hL_17
   try dsimp only at hR
   cases hR
  try dsimp only at hL_17
  obtain ⟨c45a, c45b⟩ := c45; try dsimp only at hL_17
  refine GX.callx (r' := .int .i64 c45a) (heap' := [(0, .box [.own 6 6 0 c35b.l.length, .own 7 1 0 c35b.free.length, .int .i64 c35b.root, .int .i64 c35b.n]), (3, .box [.own 8 6 0 c45b.l.length, .own 9 1 0 c45b.free.length, .int .i64 c45b.root, .int .i64 c45b.n]), (7, .row 1 3 (c35b.free.map c_i64)), (6, .row 6 69 (c35b.l.map TNode.c)), (9, .row 1 3 (c45b.free.map c_i64)), (8, .row 6 69 (c45b.l.map TNode.c))]) (next' := 10) [3, 4, 5] [] rfl rfl rfl rfl rfl rfl (f10_ok (⟨row4, row5, u_2_6, u_3_6⟩ : TTrie) x931.P 7 _ hc45) (.inl rfl) rfl rfl rfl ?_
  refine GX.done ?_
  refine WK.regx mixed ?_
  iterate 3 refine GX.m rfl ?_
  refine GX.q (.int .i64 (IntKind.i64.wrap ((min_ (script0.length : Int) 150) - 1))) ?_
  refine GX.m rfl ?_
  refine GX.q (.int .i64 (IntKind.i64.wrap ((IntKind.i64.wrap ((min_ (script0.length : Int) 150) - 1)) - i8))) ?_
  refine GX.idxT (c := TAct.c) (x := x931) rfl rfl rfl hx9310 hx931 ?_
  refine GX.q (.rptr [.int .u32 x931.P.A, .int .i64 x931.P.N, .int .i64 x931.V, .int .u32 x931.A]) ?_
  refine GX.q (.agg [.int .u32 x931.P.A, .int .i64 x931.P.N]) ?_
  generalize hc55 : F10_trie_Trie_Set c45b x931.P 7 = c55 at hL_17
  rcases c55 with _ | c55
  ·try dsimp only at hL_17
   subst hL_17
   try dsimp only at hR
   cases hR
  try dsimp only at hL_17
  obtain ⟨c55a, c55b⟩ := c55; try dsimp only at hL_17
  refine GX.callx (r' := .int .i64 c55a) (heap' := [(0, .box [.own 6 6 0 c35b.l.length, .own 7 1 0 c35b.free.length, .int .i64 c35b.root, .int .i64 c35b.n]), (3, .box [.own 10 6 0 c55b.l.length, .own 11 1 0 c55b.free.length, .int .i64 c55b.root, .int .i64 c55b.n]), (7, .row 1 3 (c35b.free.map c_i64)), (6, .row 6 69 (c35b.l.map TNode.c)), (11, .row 1 3 (c55b.free.map c_i64)), (10, .row 6 69 (c55b.l.map TNode.c))]) (next' := 12) [3, 8, 9] [] rfl rfl rfl rfl rfl rfl (f10_ok c45b x931.P 7 _ hc55) (.inl rfl) rfl rfl rfl ?_
  refine GX.done ?_
  refine WK.nil (QF.normal (hK29 _ ?_))
  refine WK.regx mixed ?_
  refine GX.m rfl ?_
  refine GX.q (.int .i64 (IntKind.i64.wrap (i8 + 1))) ?_
  refine GX.m rfl ?_
  refine GX.done ?_
  refine WK.nil (QF.normal ?_)
  exact hagain_17 _ f17 ⟨[(0, .ro 5 (script0.map TAct.c)), (1, .int .u32 a1), (5, .ptr 0 0), (6, .ptr 3 0), (7, .int .i64 (min_ (script0.length : Int) 150)), (8, .int .i64 (IntKind.i64.wrap (i8 + 1)))], [(0, .box [.own 1 6 0 c35b.l.length, .own 2 1 0 c35b.free.length, .int .i64 c35b.root, .int .i64 c35b.n]), (1, .row 6 69 (c35b.l.map TNode.c)), (2, .row 1 3 (c35b.free.map c_i64)), (3, .box [.own 4 6 0 c55b.l.length, .own 5 1 0 c55b.free.length, .int .i64 c55b.root, .int .i64 c55b.n]), (4, .row 6 69 (c55b.l.map TNode.c)), (5, .row 1 3 (c55b.free.map c_i64))], 6⟩ (Nat.lt_succ_self _) (Conv.keep [0, 6, 7, 3, 10, 11] [] [0, 1, 5, 6, 7, 8] rfl rfl (viewE_cons rfl rfl (viewE_cons rfl rfl (viewE_cons rfl rfl (viewE_cons rfl rfl (viewE_cons rfl rfl (viewE_cons rfl rfl viewE_nil)))))) rfl rfl) ⟨(IntKind.i64.wrap (i8 + 1)), c35b.root, c35b.n, c35b.l, c35b.free, c55b.root, c55b.n, c55b.l, c55b.free, fuel_up hb18 (by (unfold min_; split <;> omega)) hfu17, (by ((try simp only [List.length_append, List.length_cons, List.length_nil, decide_eq_true_eq, decide_eq_false_iff_not] at *) <;> first | omega | (rw [wrap64_of (by omega) (by omega)]; omega))), hL_17, rfl⟩

end Go.Proofs.Ytakallenldpkiaa.Abs
