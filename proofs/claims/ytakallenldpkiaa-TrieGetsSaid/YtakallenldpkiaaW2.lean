/- The functions walked: each computes its Lean function (printed by this work's own program gen.py). -/
import Derived.Test.YtakallenldpkiaaSz
import Derived.Test.YtakallenldpkiaaW1
set_option linter.unusedVariables false
set_option linter.unusedSimpArgs false
set_option maxRecDepth 10000
set_option maxHeartbeats 4000000
namespace Go.Proofs.Ytakallenldpkiaa.Abs
open Go

theorem f18_ok (l0 : List TEntry) (p1 : TPrefix) (v2 : Int) (R : (List TEntry) × Int) (hR : F18_crossroadsref06_Set l0 p1 v2 = some R) : FnOk Try.prog 18 [.ro 3 (l0.map TEntry.c), .agg (TPrefix.c p1), .int .i64 v2] [] 0 (.tup [.ro 3 (R.1.map TEntry.c), .int .i64 R.2]) [] 0 := by
 refine FnOk.wk i18 rfl rfl ?_
 unfold F18_crossroadsref06_Set at hR
 try dsimp only at hR
 change WK _ _ _ [ac18] _ ⟨[(0, .ro 3 (l0.map TEntry.c)), (1, .agg (TPrefix.c p1)), (2, .int .i64 v2)], [], 0⟩
 unfold ac18
 refine WK.sr mixed ?_
 refine GX.step (v' := .ptr 0 0) (heap' := [(0, .box (TPrefix.c p1))]) (next' := 1) rfl rfl rfl rfl rfl rfl rfl ?_
 iterate 2 refine GX.m rfl ?_
 refine GX.done ?_
 refine WK.seq ?_
 refine WK.sr mixed ?_
 refine GX.q (.agg (TPrefix.c p1)) ?_
 generalize hc15 : F28_crossroadsref03_May p1 = c15 at hR
 try dsimp only at hR
 refine GX.callp (r := .bool c15) rfl rfl rfl (f28_ok p1 _ hc15) rfl rfl ?_
 refine GX.q (.bool (!c15)) ?_
 refine GX.done ?_
 rcases bool_two (c15) with hb1 | hb1
 ·rw [hb1]; first | replace hR := cond_f hb1 hR | (try simp only [hb1, bb] at hR)
  refine WK.condT rfl ?_
  refine WK.sr mixed ?_
  iterate 3 refine GX.m rfl ?_
  refine GX.done ?_
  refine WK.ret ?_
  obtain rfl := Option.some.inj hR
  exact RetQ.fr [] (.inr rfl) rfl rfl rfl rfl
 ·rw [hb1]; first | replace hR := cond_t hb1 hR | (try simp only [hb1, bb] at hR)
  refine WK.condF rfl ?_
  refine WK.skip ?_
  refine WK.sr mixed ?_
  refine GX.m rfl ?_
  refine GX.q (.agg (TPrefix.c p1)) ?_
  generalize hc21 : F17_crossroadsref06_Drop l0 p1 = c21 at hR
  rcases c21 with _ | c21
  ·try dsimp only at hR
   cases hR
  try dsimp only at hR
  obtain ⟨c21a, c21b⟩ := c21; try dsimp only at hR
  refine GX.callp (r := .tup [.ro 3 (c21a.map TEntry.c), .bool c21b]) rfl rfl rfl (f17_ok l0 p1 _ hc21) rfl rfl ?_
  refine GX.m rfl ?_
  refine GX.q (.ro 3 (c21a.map TEntry.c)) ?_
  refine GX.q (.bool c21b) ?_
  iterate 2 refine GX.m rfl ?_
  refine GX.done ?_
  refine WK.seq ?_
  refine WK.sr mixed ?_
  refine GX.m rfl ?_
  refine GX.q (.bool (!c21b)) ?_
  refine GX.m rfl ?_
  rcases bool_two (c21b) with hb2 | hb2
  ·rw [hb2]; first | replace hR := cond_f hb2 hR | (try simp only [hb2, bb] at hR)
   refine GX.m rfl ?_
   refine GX.pure (v' := .int .i64 (l0.length : Int)) rfl rfl rfl rfl (len_map _ _) ?_
   iterate 2 refine GX.q (.bool (decide (5000 ≤ (l0.length : Int)))) ?_
   refine GX.done ?_
   rcases bool_two (decide (5000 ≤ (l0.length : Int))) with hb3 | hb3
   ·rw [hb3]; try simp only [hb3, bb] at hR
    refine WK.condF rfl ?_
    refine WK.skip ?_
    refine WK.sr mixed ?_
    refine GX.q (.agg (TPrefix.c p1)) ?_
    refine GX.m rfl ?_
    refine GX.q (.agg [.int .u32 p1.A, .int .i64 p1.N, .int .i64 v2]) ?_
    refine GX.step (v' := .ptr 1 0) (heap' := [(0, .box (TPrefix.c p1)), (1, .box [.int .u32 0, .int .i64 0, .int .i64 0])]) (next' := 2) rfl rfl rfl rfl rfl rfl rfl ?_
    refine GX.step0 (heap' := [(0, .box (TPrefix.c p1)), (1, .box [.int .u32 p1.A, .int .i64 p1.N, .int .i64 v2])]) (next' := 2) rfl rfl rfl rfl rfl ?_
    refine GX.done ?_
    refine WK.sr mixed ?_
    refine GX.step (v' := .own 2 3 0 (([] : List TEntry)).length) (heap' := [(0, .box (TPrefix.c p1)), (1, .box [.int .u32 p1.A, .int .i64 p1.N, .int .i64 v2]), (2, .row 3 33 (([] : List TEntry).map TEntry.c))]) (next' := 3) rfl rfl rfl rfl rfl rfl rfl ?_
    refine GX.m rfl ?_
    refine GX.done ?_
    refine WK.sr mixed ?_
    refine GX.m rfl ?_
    refine GX.done ?_
    refine WK.seq ?_
    refine WK.sr mixed ?_
    refine GX.m rfl ?_
    refine GX.done ?_
    refine WK.len (t := 22) rfl (by simp) (fun hlen_16 => ?_)
    rw [List.length_map] at hlen_16
    generalize hZ_16 : F18_crossroadsref06_Set_l1 p1 v2 false ([] : List TEntry) c21a = Z_16 at hR
    refine WK.forK (fun k s => ∃ (i13 : Nat) (put12 : Bool) (out11 : List TEntry), i13 ≤ c21a.length ∧ k = c21a.length - i13 ∧ F18_crossroadsref06_Set_l1 p1 v2 put12 out11 (c21a.drop i13) = Z_16 ∧ s = ⟨[(4, .ptr 0 0), (8, .ro 3 (c21a.map TEntry.c)), (10, .ptr 1 0), (11, .own 2 3 0 out11.length), (12, .bool put12), (13, .int .i64 (i13 : Int))], [(0, .box (TPrefix.c p1)), (1, .box [.int .u32 p1.A, .int .i64 p1.N, .int .i64 v2]), (2, .row 3 33 (out11.map TEntry.c))], 3⟩) c21a.length ⟨⟨[(4, .ptr 0 0), (8, .ro 3 (c21a.map TEntry.c)), (10, .ptr 1 0), (11, .own 2 3 0 ([] : List TEntry).length), (12, .bool false), (13, .int .i64 (0 : Int))], [(0, .box (TPrefix.c p1)), (1, .box [.int .u32 p1.A, .int .i64 p1.N, .int .i64 v2]), (2, .row 3 33 (([] : List TEntry).map TEntry.c))], 3⟩, Conv.keep [0, 1, 2] [] [4, 8, 10, 11, 12, 13] rfl rfl (viewE_cons rfl rfl (viewE_cons rfl rfl (viewE_cons rfl rfl (viewE_cons rfl rfl (viewE_cons rfl rfl (viewE_cons rfl rfl viewE_nil)))))) rfl rfl, 0, false, ([] : List TEntry), (by omega), rfl, hZ_16, rfl⟩ ?_
    rintro _ _ ⟨i13, put12, out11, hi_16, rfl, hL_16, rfl⟩ again_16 out_16 Q_16 hagain_16 hout_16 hQ_16
    refine WK.seq ?_
    refine WK.sr mixed ?_
    iterate 2 refine GX.m rfl ?_
    refine GX.pure (v' := .int .i64 (c21a.length : Int)) rfl rfl rfl rfl (len_map _ _) ?_
    refine GX.q (.bool (decide ((i13 : Int) < (c21a.length : Int)))) ?_
    refine GX.done ?_
    rcases bool_two (decide ((i13 : Int) < (c21a.length : Int))) with hb17 | hb17
    ·rw [hb17]
     rw [drop_end hb17, F18_crossroadsref06_Set_l1] at hL_16
     refine WK.condF rfl ?_
     refine WK.exit ?_
     refine QF.exit (hout_16 _ ?_)
     subst hL_16
     try dsimp only [cond_true, cond_false] at hR
     refine WK.seq ?_
     refine WK.sr mixed ?_
     refine GX.m rfl ?_
     refine GX.q (.bool (!put12)) ?_
     refine GX.done ?_
     rcases bool_two (put12) with hb18 | hb18
     ·rw [hb18]; first | replace hR := cond_f hb18 hR | (try simp only [hb18, bb] at hR)
      refine WK.condT rfl ?_
      refine WK.regx mixed ?_
      refine GX.m rfl ?_
      refine GX.q (.agg [.int .u32 p1.A, .int .i64 p1.N, .int .i64 v2]) ?_
      refine GX.step (v' := .own 3 3 0 (([(⟨p1, v2⟩ : TEntry)] : List TEntry)).length) (heap' := [(0, .box (TPrefix.c p1)), (1, .box [.int .u32 p1.A, .int .i64 p1.N, .int .i64 v2]), (2, .row 3 33 (out11.map TEntry.c)), (3, .row 3 33 (([(⟨p1, v2⟩ : TEntry)] : List TEntry).map TEntry.c))]) (next' := 4) rfl rfl rfl rfl rfl rfl rfl ?_
      rcases bool_two (decide (out11.length < 1099511627776)) with hg19 | hg19
      ·simp only [hg19, bb] at hR
       try dsimp only at hR
       cases hR
      simp only [hg19, bb] at hR
      have hg19_ := of_decide_eq_true hg19
      refine GX.appT (c := TEntry.c) (L := out11) (X := ([(⟨p1, v2⟩ : TEntry)] : List TEntry)) (heap' := [(0, .box (TPrefix.c p1)), (1, .box [.int .u32 p1.A, .int .i64 p1.N, .int .i64 v2]), (3, .row 3 33 (([(⟨p1, v2⟩ : TEntry)] : List TEntry).map TEntry.c)), (4, .row 3 33 ((out11 ++ ([(⟨p1, v2⟩ : TEntry)] : List TEntry)).map TEntry.c))]) (next' := 5) rfl rfl rfl rfl (elems_own rfl) (by ((try simp only [List.length_append, List.length_cons, List.length_nil, List.length_map, decide_eq_true_eq, decide_eq_false_iff_not] at *) <;> omega)) (by ((try simp only [List.length_append, List.length_cons, List.length_nil, List.length_map, decide_eq_true_eq, decide_eq_false_iff_not] at *) <;> omega)) rfl rfl rfl rfl ?_
      refine GX.m rfl ?_
      refine GX.done ?_
      refine WK.sr mixed ?_
      iterate 3 refine GX.m rfl ?_
      refine GX.done ?_
      refine WK.ret ?_
      obtain rfl := Option.some.inj hR
      exact RetQ.fr [4] (.inr rfl) rfl rfl (viewGo_cons (view_rowT rfl rfl) (viewGo_cons rfl viewGo_nil)) rfl
     ·rw [hb18]; first | replace hR := cond_t hb18 hR | (try simp only [hb18, bb] at hR)
      refine WK.condF rfl ?_
      refine WK.skip ?_
      refine WK.sr mixed ?_
      iterate 3 refine GX.m rfl ?_
      refine GX.done ?_
      refine WK.ret ?_
      obtain rfl := Option.some.inj hR
      exact RetQ.fr [2] (.inr rfl) rfl rfl (viewGo_cons (view_rowT rfl rfl) (viewGo_cons rfl viewGo_nil)) rfl
    ·rw [hb17]
     obtain ⟨x13, hx16, hd16, hlt16⟩ := drop_more hb17
     rw [hd16, F18_crossroadsref06_Set_l1] at hL_16
     refine WK.condT rfl ?_
     refine WK.skip ?_
     refine WK.seq ?_
     refine WK.blockK (fun _ hK20 => ?_)
     iterate 2 refine WK.seq ?_
     refine WK.drawn mixed ?_
     refine RD.m rfl ?_
     refine RD.q (.bool (!put12)) ?_
     refine RD.m rfl ?_
     rcases bool_two (put12) with hb21 | hb21
     ·rw [hb21]; try simp only [hb21, bb] at hL_16
      refine RD.q (.agg (TPrefix.c p1)) ?_
      iterate 2 refine RD.m rfl ?_
      refine RD.idxT (c := TEntry.c) (x := x13) rfl rfl rfl (Int.natCast_nonneg _) hx16 ?_
      refine RD.q (.rptr (TEntry.c x13)) ?_
      refine RD.q (.agg [.int .u32 x13.P.A, .int .i64 x13.P.N]) ?_
      generalize hc51 : F29_crossroadsref03_Less p1 x13.P = c51 at hL_16
      try dsimp only at hL_16
      refine RD.callp (r := .bool c51) rfl rfl rfl (f29_ok p1 x13.P _ hc51) rfl rfl ?_
      refine RD.q (.bool c51) ?_
      refine RD.done rfl ?_
      rcases bool_two (c51) with hb22 | hb22
      ·rw [hb22]; try simp only [hb22, bb] at hL_16
       refine WK.condF rfl ?_
       refine WK.skip ?_
       refine WK.regx mixed ?_
       iterate 3 refine GX.m rfl ?_
       refine GX.idxT (c := TEntry.c) (x := x13) rfl rfl rfl (Int.natCast_nonneg _) hx16 ?_
       refine GX.q (.agg (TEntry.c x13)) ?_
       refine GX.step (v' := .own 3 3 0 (([x13] : List TEntry)).length) (heap' := [(0, .box (TPrefix.c p1)), (1, .box [.int .u32 p1.A, .int .i64 p1.N, .int .i64 v2]), (2, .row 3 33 (out11.map TEntry.c)), (3, .row 3 33 (([x13] : List TEntry).map TEntry.c))]) (next' := 4) rfl rfl rfl rfl rfl rfl rfl ?_
       rcases bool_two (decide (out11.length < 1099511627776)) with hg23 | hg23
       ·simp only [hg23, bb] at hL_16
        try dsimp only at hL_16
        subst hL_16
        try dsimp only at hR
        cases hR
       simp only [hg23, bb] at hL_16
       have hg23_ := of_decide_eq_true hg23
       refine GX.appT (c := TEntry.c) (L := out11) (X := ([x13] : List TEntry)) (heap' := [(0, .box (TPrefix.c p1)), (1, .box [.int .u32 p1.A, .int .i64 p1.N, .int .i64 v2]), (3, .row 3 33 (([x13] : List TEntry).map TEntry.c)), (4, .row 3 33 ((out11 ++ ([x13] : List TEntry)).map TEntry.c))]) (next' := 5) rfl rfl rfl rfl (elems_own rfl) (by ((try simp only [List.length_append, List.length_cons, List.length_nil, List.length_map, decide_eq_true_eq, decide_eq_false_iff_not] at *) <;> omega)) (by ((try simp only [List.length_append, List.length_cons, List.length_nil, List.length_map, decide_eq_true_eq, decide_eq_false_iff_not] at *) <;> omega)) rfl rfl rfl rfl ?_
       refine GX.m rfl ?_
       refine GX.done ?_
       refine WK.nil (QF.normal (hK20 _ ?_))
       refine WK.regx mixed ?_
       refine GX.m rfl ?_
       refine GX.pure (v' := .int .i64 ((i13 + 1 : Nat) : Int)) rfl rfl rfl rfl (congrArg (PVal.int .i64) (wrap_up hlt16 hlen_16)) ?_
       refine GX.m rfl ?_
       refine GX.done ?_
       refine WK.nil (QF.normal ?_)
       exact hagain_16 _ (c21a.length - (i13 + 1)) ⟨[(4, .ptr 0 0), (8, .ro 3 (c21a.map TEntry.c)), (10, .ptr 1 0), (11, .own 2 3 0 (out11 ++ ([x13] : List TEntry)).length), (12, .bool false), (13, .int .i64 ((i13 + 1) : Int))], [(0, .box (TPrefix.c p1)), (1, .box [.int .u32 p1.A, .int .i64 p1.N, .int .i64 v2]), (2, .row 3 33 ((out11 ++ ([x13] : List TEntry)).map TEntry.c))], 3⟩ (by omega) (Conv.keep [0, 1, 4] [] [4, 8, 10, 11, 12, 13] rfl rfl (viewE_cons rfl rfl (viewE_cons rfl rfl (viewE_cons rfl rfl (viewE_cons rfl rfl (viewE_cons rfl rfl (viewE_cons rfl rfl viewE_nil)))))) rfl rfl) ⟨i13 + 1, false, (out11 ++ ([x13] : List TEntry)), (by omega), rfl, hL_16, rfl⟩
      ·rw [hb22]; try simp only [hb22, bb] at hL_16
       refine WK.condT rfl ?_
       refine WK.sr mixed ?_
       refine GX.m rfl ?_
       refine GX.q (.agg [.int .u32 p1.A, .int .i64 p1.N, .int .i64 v2]) ?_
       refine GX.step (v' := .own 3 3 0 (([(⟨p1, v2⟩ : TEntry)] : List TEntry)).length) (heap' := [(0, .box (TPrefix.c p1)), (1, .box [.int .u32 p1.A, .int .i64 p1.N, .int .i64 v2]), (2, .row 3 33 (out11.map TEntry.c)), (3, .row 3 33 (([(⟨p1, v2⟩ : TEntry)] : List TEntry).map TEntry.c))]) (next' := 4) rfl rfl rfl rfl rfl rfl rfl ?_
       rcases bool_two (decide (out11.length < 1099511627776)) with hg24 | hg24
       ·simp only [hg24, bb] at hL_16
        try dsimp only at hL_16
        subst hL_16
        try dsimp only at hR
        cases hR
       simp only [hg24, bb] at hL_16
       have hg24_ := of_decide_eq_true hg24
       refine GX.appT (c := TEntry.c) (L := out11) (X := ([(⟨p1, v2⟩ : TEntry)] : List TEntry)) (heap' := [(0, .box (TPrefix.c p1)), (1, .box [.int .u32 p1.A, .int .i64 p1.N, .int .i64 v2]), (3, .row 3 33 (([(⟨p1, v2⟩ : TEntry)] : List TEntry).map TEntry.c)), (4, .row 3 33 ((out11 ++ ([(⟨p1, v2⟩ : TEntry)] : List TEntry)).map TEntry.c))]) (next' := 5) rfl rfl rfl rfl (elems_own rfl) (by ((try simp only [List.length_append, List.length_cons, List.length_nil, List.length_map, decide_eq_true_eq, decide_eq_false_iff_not] at *) <;> omega)) (by ((try simp only [List.length_append, List.length_cons, List.length_nil, List.length_map, decide_eq_true_eq, decide_eq_false_iff_not] at *) <;> omega)) rfl rfl rfl rfl ?_
       refine GX.m rfl ?_
       refine GX.done ?_
       refine WK.regx mixed ?_
       refine GX.m rfl ?_
       refine GX.done ?_
       refine WK.regx mixed ?_
       iterate 3 refine GX.m rfl ?_
       refine GX.idxT (c := TEntry.c) (x := x13) rfl rfl rfl (Int.natCast_nonneg _) hx16 ?_
       refine GX.q (.agg (TEntry.c x13)) ?_
       refine GX.step (v' := .own 5 3 0 (([x13] : List TEntry)).length) (heap' := [(0, .box (TPrefix.c p1)), (1, .box [.int .u32 p1.A, .int .i64 p1.N, .int .i64 v2]), (3, .row 3 33 (([(⟨p1, v2⟩ : TEntry)] : List TEntry).map TEntry.c)), (4, .row 3 33 ((out11 ++ ([(⟨p1, v2⟩ : TEntry)] : List TEntry)).map TEntry.c)), (5, .row 3 33 (([x13] : List TEntry).map TEntry.c))]) (next' := 6) rfl rfl rfl rfl rfl rfl rfl ?_
       rcases bool_two (decide ((out11 ++ ([(⟨p1, v2⟩ : TEntry)] : List TEntry)).length < 1099511627776)) with hg25 | hg25
       ·simp only [hg25, bb] at hL_16
        try dsimp only at hL_16
        subst hL_16
        try dsimp only at hR
        cases hR
       simp only [hg25, bb] at hL_16
       have hg25_ := of_decide_eq_true hg25
       refine GX.appT (c := TEntry.c) (L := (out11 ++ ([(⟨p1, v2⟩ : TEntry)] : List TEntry))) (X := ([x13] : List TEntry)) (heap' := [(0, .box (TPrefix.c p1)), (1, .box [.int .u32 p1.A, .int .i64 p1.N, .int .i64 v2]), (3, .row 3 33 (([(⟨p1, v2⟩ : TEntry)] : List TEntry).map TEntry.c)), (5, .row 3 33 (([x13] : List TEntry).map TEntry.c)), (6, .row 3 33 (((out11 ++ ([(⟨p1, v2⟩ : TEntry)] : List TEntry)) ++ ([x13] : List TEntry)).map TEntry.c))]) (next' := 7) rfl rfl rfl rfl (elems_own rfl) (by ((try simp only [List.length_append, List.length_cons, List.length_nil, List.length_map, decide_eq_true_eq, decide_eq_false_iff_not] at *) <;> omega)) (by ((try simp only [List.length_append, List.length_cons, List.length_nil, List.length_map, decide_eq_true_eq, decide_eq_false_iff_not] at *) <;> omega)) rfl rfl rfl rfl ?_
       refine GX.m rfl ?_
       refine GX.done ?_
       refine WK.nil (QF.normal (hK20 _ ?_))
       refine WK.regx mixed ?_
       refine GX.m rfl ?_
       refine GX.pure (v' := .int .i64 ((i13 + 1 : Nat) : Int)) rfl rfl rfl rfl (congrArg (PVal.int .i64) (wrap_up hlt16 hlen_16)) ?_
       refine GX.m rfl ?_
       refine GX.done ?_
       refine WK.nil (QF.normal ?_)
       exact hagain_16 _ (c21a.length - (i13 + 1)) ⟨[(4, .ptr 0 0), (8, .ro 3 (c21a.map TEntry.c)), (10, .ptr 1 0), (11, .own 2 3 0 ((out11 ++ ([(⟨p1, v2⟩ : TEntry)] : List TEntry)) ++ ([x13] : List TEntry)).length), (12, .bool true), (13, .int .i64 ((i13 + 1) : Int))], [(0, .box (TPrefix.c p1)), (1, .box [.int .u32 p1.A, .int .i64 p1.N, .int .i64 v2]), (2, .row 3 33 (((out11 ++ ([(⟨p1, v2⟩ : TEntry)] : List TEntry)) ++ ([x13] : List TEntry)).map TEntry.c))], 3⟩ (by omega) (Conv.keep [0, 1, 6] [] [4, 8, 10, 11, 12, 13] rfl rfl (viewE_cons rfl rfl (viewE_cons rfl rfl (viewE_cons rfl rfl (viewE_cons rfl rfl (viewE_cons rfl rfl (viewE_cons rfl rfl viewE_nil)))))) rfl rfl) ⟨i13 + 1, true, ((out11 ++ ([(⟨p1, v2⟩ : TEntry)] : List TEntry)) ++ ([x13] : List TEntry)), (by omega), rfl, hL_16, rfl⟩
     ·rw [hb21]; try simp only [hb21, bb] at hL_16
      iterate 7 refine RD.skip rfl rfl ?_
      refine RD.q (.bool false) ?_
      refine RD.done rfl ?_
      refine WK.condF rfl ?_
      refine WK.skip ?_
      refine WK.regx mixed ?_
      iterate 3 refine GX.m rfl ?_
      refine GX.idxT (c := TEntry.c) (x := x13) rfl rfl rfl (Int.natCast_nonneg _) hx16 ?_
      refine GX.q (.agg (TEntry.c x13)) ?_
      refine GX.step (v' := .own 3 3 0 (([x13] : List TEntry)).length) (heap' := [(0, .box (TPrefix.c p1)), (1, .box [.int .u32 p1.A, .int .i64 p1.N, .int .i64 v2]), (2, .row 3 33 (out11.map TEntry.c)), (3, .row 3 33 (([x13] : List TEntry).map TEntry.c))]) (next' := 4) rfl rfl rfl rfl rfl rfl rfl ?_
      rcases bool_two (decide (out11.length < 1099511627776)) with hg26 | hg26
      ·simp only [hg26, bb] at hL_16
       try dsimp only at hL_16
       subst hL_16
       try dsimp only at hR
       cases hR
      simp only [hg26, bb] at hL_16
      have hg26_ := of_decide_eq_true hg26
      refine GX.appT (c := TEntry.c) (L := out11) (X := ([x13] : List TEntry)) (heap' := [(0, .box (TPrefix.c p1)), (1, .box [.int .u32 p1.A, .int .i64 p1.N, .int .i64 v2]), (3, .row 3 33 (([x13] : List TEntry).map TEntry.c)), (4, .row 3 33 ((out11 ++ ([x13] : List TEntry)).map TEntry.c))]) (next' := 5) rfl rfl rfl rfl (elems_own rfl) (by ((try simp only [List.length_append, List.length_cons, List.length_nil, List.length_map, decide_eq_true_eq, decide_eq_false_iff_not] at *) <;> omega)) (by ((try simp only [List.length_append, List.length_cons, List.length_nil, List.length_map, decide_eq_true_eq, decide_eq_false_iff_not] at *) <;> omega)) rfl rfl rfl rfl ?_
      refine GX.m rfl ?_
      refine GX.done ?_
      refine WK.nil (QF.normal (hK20 _ ?_))
      refine WK.regx mixed ?_
      refine GX.m rfl ?_
      refine GX.pure (v' := .int .i64 ((i13 + 1 : Nat) : Int)) rfl rfl rfl rfl (congrArg (PVal.int .i64) (wrap_up hlt16 hlen_16)) ?_
      refine GX.m rfl ?_
      refine GX.done ?_
      refine WK.nil (QF.normal ?_)
      exact hagain_16 _ (c21a.length - (i13 + 1)) ⟨[(4, .ptr 0 0), (8, .ro 3 (c21a.map TEntry.c)), (10, .ptr 1 0), (11, .own 2 3 0 (out11 ++ ([x13] : List TEntry)).length), (12, .bool true), (13, .int .i64 ((i13 + 1) : Int))], [(0, .box (TPrefix.c p1)), (1, .box [.int .u32 p1.A, .int .i64 p1.N, .int .i64 v2]), (2, .row 3 33 ((out11 ++ ([x13] : List TEntry)).map TEntry.c))], 3⟩ (by omega) (Conv.keep [0, 1, 4] [] [4, 8, 10, 11, 12, 13] rfl rfl (viewE_cons rfl rfl (viewE_cons rfl rfl (viewE_cons rfl rfl (viewE_cons rfl rfl (viewE_cons rfl rfl (viewE_cons rfl rfl viewE_nil)))))) rfl rfl) ⟨i13 + 1, true, (out11 ++ ([x13] : List TEntry)), (by omega), rfl, hL_16, rfl⟩
   ·rw [hb3]; try simp only [hb3, bb] at hR
    refine WK.condT rfl ?_
    refine WK.sr mixed ?_
    iterate 3 refine GX.m rfl ?_
    refine GX.done ?_
    refine WK.ret ?_
    obtain rfl := Option.some.inj hR
    exact RetQ.fr [] (.inr rfl) rfl rfl rfl rfl
  ·rw [hb2]; first | replace hR := cond_t hb2 hR | (try simp only [hb2, bb] at hR)
   iterate 3 refine GX.skip rfl rfl ?_
   refine GX.q (.bool false) ?_
   refine GX.done ?_
   refine WK.condF rfl ?_
   refine WK.skip ?_
   refine WK.sr mixed ?_
   refine GX.q (.agg (TPrefix.c p1)) ?_
   refine GX.m rfl ?_
   refine GX.q (.agg [.int .u32 p1.A, .int .i64 p1.N, .int .i64 v2]) ?_
   refine GX.step (v' := .ptr 1 0) (heap' := [(0, .box (TPrefix.c p1)), (1, .box [.int .u32 0, .int .i64 0, .int .i64 0])]) (next' := 2) rfl rfl rfl rfl rfl rfl rfl ?_
   refine GX.step0 (heap' := [(0, .box (TPrefix.c p1)), (1, .box [.int .u32 p1.A, .int .i64 p1.N, .int .i64 v2])]) (next' := 2) rfl rfl rfl rfl rfl ?_
   refine GX.done ?_
   refine WK.sr mixed ?_
   refine GX.step (v' := .own 2 3 0 (([] : List TEntry)).length) (heap' := [(0, .box (TPrefix.c p1)), (1, .box [.int .u32 p1.A, .int .i64 p1.N, .int .i64 v2]), (2, .row 3 33 (([] : List TEntry).map TEntry.c))]) (next' := 3) rfl rfl rfl rfl rfl rfl rfl ?_
   refine GX.m rfl ?_
   refine GX.done ?_
   refine WK.sr mixed ?_
   refine GX.m rfl ?_
   refine GX.done ?_
   refine WK.seq ?_
   refine WK.sr mixed ?_
   refine GX.m rfl ?_
   refine GX.done ?_
   refine WK.len (t := 22) rfl (by simp) (fun hlen_39 => ?_)
   rw [List.length_map] at hlen_39
   generalize hZ_39 : F18_crossroadsref06_Set_l1 p1 v2 false ([] : List TEntry) c21a = Z_39 at hR
   refine WK.forK (fun k s => ∃ (i13 : Nat) (put12 : Bool) (out11 : List TEntry), i13 ≤ c21a.length ∧ k = c21a.length - i13 ∧ F18_crossroadsref06_Set_l1 p1 v2 put12 out11 (c21a.drop i13) = Z_39 ∧ s = ⟨[(4, .ptr 0 0), (8, .ro 3 (c21a.map TEntry.c)), (10, .ptr 1 0), (11, .own 2 3 0 out11.length), (12, .bool put12), (13, .int .i64 (i13 : Int))], [(0, .box (TPrefix.c p1)), (1, .box [.int .u32 p1.A, .int .i64 p1.N, .int .i64 v2]), (2, .row 3 33 (out11.map TEntry.c))], 3⟩) c21a.length ⟨⟨[(4, .ptr 0 0), (8, .ro 3 (c21a.map TEntry.c)), (10, .ptr 1 0), (11, .own 2 3 0 ([] : List TEntry).length), (12, .bool false), (13, .int .i64 (0 : Int))], [(0, .box (TPrefix.c p1)), (1, .box [.int .u32 p1.A, .int .i64 p1.N, .int .i64 v2]), (2, .row 3 33 (([] : List TEntry).map TEntry.c))], 3⟩, Conv.keep [0, 1, 2] [] [4, 8, 10, 11, 12, 13] rfl rfl (viewE_cons rfl rfl (viewE_cons rfl rfl (viewE_cons rfl rfl (viewE_cons rfl rfl (viewE_cons rfl rfl (viewE_cons rfl rfl viewE_nil)))))) rfl rfl, 0, false, ([] : List TEntry), (by omega), rfl, hZ_39, rfl⟩ ?_
   rintro _ _ ⟨i13, put12, out11, hi_39, rfl, hL_39, rfl⟩ again_39 out_39 Q_39 hagain_39 hout_39 hQ_39
   refine WK.seq ?_
   refine WK.sr mixed ?_
   iterate 2 refine GX.m rfl ?_
   refine GX.pure (v' := .int .i64 (c21a.length : Int)) rfl rfl rfl rfl (len_map _ _) ?_
   refine GX.q (.bool (decide ((i13 : Int) < (c21a.length : Int)))) ?_
   refine GX.done ?_
   rcases bool_two (decide ((i13 : Int) < (c21a.length : Int))) with hb40 | hb40
   ·rw [hb40]
    rw [drop_end hb40, F18_crossroadsref06_Set_l1] at hL_39
    refine WK.condF rfl ?_
    refine WK.exit ?_
    refine QF.exit (hout_39 _ ?_)
    subst hL_39
    try dsimp only [cond_true, cond_false] at hR
    refine WK.seq ?_
    refine WK.sr mixed ?_
    refine GX.m rfl ?_
    refine GX.q (.bool (!put12)) ?_
    refine GX.done ?_
    rcases bool_two (put12) with hb41 | hb41
    ·rw [hb41]; first | replace hR := cond_f hb41 hR | (try simp only [hb41, bb] at hR)
     refine WK.condT rfl ?_
     refine WK.regx mixed ?_
     refine GX.m rfl ?_
     refine GX.q (.agg [.int .u32 p1.A, .int .i64 p1.N, .int .i64 v2]) ?_
     refine GX.step (v' := .own 3 3 0 (([(⟨p1, v2⟩ : TEntry)] : List TEntry)).length) (heap' := [(0, .box (TPrefix.c p1)), (1, .box [.int .u32 p1.A, .int .i64 p1.N, .int .i64 v2]), (2, .row 3 33 (out11.map TEntry.c)), (3, .row 3 33 (([(⟨p1, v2⟩ : TEntry)] : List TEntry).map TEntry.c))]) (next' := 4) rfl rfl rfl rfl rfl rfl rfl ?_
     rcases bool_two (decide (out11.length < 1099511627776)) with hg42 | hg42
     ·simp only [hg42, bb] at hR
      try dsimp only at hR
      cases hR
     simp only [hg42, bb] at hR
     have hg42_ := of_decide_eq_true hg42
     refine GX.appT (c := TEntry.c) (L := out11) (X := ([(⟨p1, v2⟩ : TEntry)] : List TEntry)) (heap' := [(0, .box (TPrefix.c p1)), (1, .box [.int .u32 p1.A, .int .i64 p1.N, .int .i64 v2]), (3, .row 3 33 (([(⟨p1, v2⟩ : TEntry)] : List TEntry).map TEntry.c)), (4, .row 3 33 ((out11 ++ ([(⟨p1, v2⟩ : TEntry)] : List TEntry)).map TEntry.c))]) (next' := 5) rfl rfl rfl rfl (elems_own rfl) (by ((try simp only [List.length_append, List.length_cons, List.length_nil, List.length_map, decide_eq_true_eq, decide_eq_false_iff_not] at *) <;> omega)) (by ((try simp only [List.length_append, List.length_cons, List.length_nil, List.length_map, decide_eq_true_eq, decide_eq_false_iff_not] at *) <;> omega)) rfl rfl rfl rfl ?_
     refine GX.m rfl ?_
     refine GX.done ?_
     refine WK.sr mixed ?_
     iterate 3 refine GX.m rfl ?_
     refine GX.done ?_
     refine WK.ret ?_
     obtain rfl := Option.some.inj hR
     exact RetQ.fr [4] (.inr rfl) rfl rfl (viewGo_cons (view_rowT rfl rfl) (viewGo_cons rfl viewGo_nil)) rfl
    ·rw [hb41]; first | replace hR := cond_t hb41 hR | (try simp only [hb41, bb] at hR)
     refine WK.condF rfl ?_
     refine WK.skip ?_
     refine WK.sr mixed ?_
     iterate 3 refine GX.m rfl ?_
     refine GX.done ?_
     refine WK.ret ?_
     obtain rfl := Option.some.inj hR
     exact RetQ.fr [2] (.inr rfl) rfl rfl (viewGo_cons (view_rowT rfl rfl) (viewGo_cons rfl viewGo_nil)) rfl
   ·rw [hb40]
    obtain ⟨x13, hx39, hd39, hlt39⟩ := drop_more hb40
    rw [hd39, F18_crossroadsref06_Set_l1] at hL_39
    refine WK.condT rfl ?_
    refine WK.skip ?_
    refine WK.seq ?_
    refine WK.blockK (fun _ hK43 => ?_)
    iterate 2 refine WK.seq ?_
    refine WK.drawn mixed ?_
    refine RD.m rfl ?_
    refine RD.q (.bool (!put12)) ?_
    refine RD.m rfl ?_
    rcases bool_two (put12) with hb44 | hb44
    ·rw [hb44]; try simp only [hb44, bb] at hL_39
     refine RD.q (.agg (TPrefix.c p1)) ?_
     iterate 2 refine RD.m rfl ?_
     refine RD.idxT (c := TEntry.c) (x := x13) rfl rfl rfl (Int.natCast_nonneg _) hx39 ?_
     refine RD.q (.rptr (TEntry.c x13)) ?_
     refine RD.q (.agg [.int .u32 x13.P.A, .int .i64 x13.P.N]) ?_
     generalize hc51 : F29_crossroadsref03_Less p1 x13.P = c51 at hL_39
     try dsimp only at hL_39
     refine RD.callp (r := .bool c51) rfl rfl rfl (f29_ok p1 x13.P _ hc51) rfl rfl ?_
     refine RD.q (.bool c51) ?_
     refine RD.done rfl ?_
     rcases bool_two (c51) with hb45 | hb45
     ·rw [hb45]; try simp only [hb45, bb] at hL_39
      refine WK.condF rfl ?_
      refine WK.skip ?_
      refine WK.regx mixed ?_
      iterate 3 refine GX.m rfl ?_
      refine GX.idxT (c := TEntry.c) (x := x13) rfl rfl rfl (Int.natCast_nonneg _) hx39 ?_
      refine GX.q (.agg (TEntry.c x13)) ?_
      refine GX.step (v' := .own 3 3 0 (([x13] : List TEntry)).length) (heap' := [(0, .box (TPrefix.c p1)), (1, .box [.int .u32 p1.A, .int .i64 p1.N, .int .i64 v2]), (2, .row 3 33 (out11.map TEntry.c)), (3, .row 3 33 (([x13] : List TEntry).map TEntry.c))]) (next' := 4) rfl rfl rfl rfl rfl rfl rfl ?_
      rcases bool_two (decide (out11.length < 1099511627776)) with hg46 | hg46
      ·simp only [hg46, bb] at hL_39
       try dsimp only at hL_39
       subst hL_39
       try dsimp only at hR
       cases hR
      simp only [hg46, bb] at hL_39
      have hg46_ := of_decide_eq_true hg46
      refine GX.appT (c := TEntry.c) (L := out11) (X := ([x13] : List TEntry)) (heap' := [(0, .box (TPrefix.c p1)), (1, .box [.int .u32 p1.A, .int .i64 p1.N, .int .i64 v2]), (3, .row 3 33 (([x13] : List TEntry).map TEntry.c)), (4, .row 3 33 ((out11 ++ ([x13] : List TEntry)).map TEntry.c))]) (next' := 5) rfl rfl rfl rfl (elems_own rfl) (by ((try simp only [List.length_append, List.length_cons, List.length_nil, List.length_map, decide_eq_true_eq, decide_eq_false_iff_not] at *) <;> omega)) (by ((try simp only [List.length_append, List.length_cons, List.length_nil, List.length_map, decide_eq_true_eq, decide_eq_false_iff_not] at *) <;> omega)) rfl rfl rfl rfl ?_
      refine GX.m rfl ?_
      refine GX.done ?_
      refine WK.nil (QF.normal (hK43 _ ?_))
      refine WK.regx mixed ?_
      refine GX.m rfl ?_
      refine GX.pure (v' := .int .i64 ((i13 + 1 : Nat) : Int)) rfl rfl rfl rfl (congrArg (PVal.int .i64) (wrap_up hlt39 hlen_39)) ?_
      refine GX.m rfl ?_
      refine GX.done ?_
      refine WK.nil (QF.normal ?_)
      exact hagain_39 _ (c21a.length - (i13 + 1)) ⟨[(4, .ptr 0 0), (8, .ro 3 (c21a.map TEntry.c)), (10, .ptr 1 0), (11, .own 2 3 0 (out11 ++ ([x13] : List TEntry)).length), (12, .bool false), (13, .int .i64 ((i13 + 1) : Int))], [(0, .box (TPrefix.c p1)), (1, .box [.int .u32 p1.A, .int .i64 p1.N, .int .i64 v2]), (2, .row 3 33 ((out11 ++ ([x13] : List TEntry)).map TEntry.c))], 3⟩ (by omega) (Conv.keep [0, 1, 4] [] [4, 8, 10, 11, 12, 13] rfl rfl (viewE_cons rfl rfl (viewE_cons rfl rfl (viewE_cons rfl rfl (viewE_cons rfl rfl (viewE_cons rfl rfl (viewE_cons rfl rfl viewE_nil)))))) rfl rfl) ⟨i13 + 1, false, (out11 ++ ([x13] : List TEntry)), (by omega), rfl, hL_39, rfl⟩
     ·rw [hb45]; try simp only [hb45, bb] at hL_39
      refine WK.condT rfl ?_
      refine WK.sr mixed ?_
      refine GX.m rfl ?_
      refine GX.q (.agg [.int .u32 p1.A, .int .i64 p1.N, .int .i64 v2]) ?_
      refine GX.step (v' := .own 3 3 0 (([(⟨p1, v2⟩ : TEntry)] : List TEntry)).length) (heap' := [(0, .box (TPrefix.c p1)), (1, .box [.int .u32 p1.A, .int .i64 p1.N, .int .i64 v2]), (2, .row 3 33 (out11.map TEntry.c)), (3, .row 3 33 (([(⟨p1, v2⟩ : TEntry)] : List TEntry).map TEntry.c))]) (next' := 4) rfl rfl rfl rfl rfl rfl rfl ?_
      rcases bool_two (decide (out11.length < 1099511627776)) with hg47 | hg47
      ·simp only [hg47, bb] at hL_39
       try dsimp only at hL_39
       subst hL_39
       try dsimp only at hR
       cases hR
      simp only [hg47, bb] at hL_39
      have hg47_ := of_decide_eq_true hg47
      refine GX.appT (c := TEntry.c) (L := out11) (X := ([(⟨p1, v2⟩ : TEntry)] : List TEntry)) (heap' := [(0, .box (TPrefix.c p1)), (1, .box [.int .u32 p1.A, .int .i64 p1.N, .int .i64 v2]), (3, .row 3 33 (([(⟨p1, v2⟩ : TEntry)] : List TEntry).map TEntry.c)), (4, .row 3 33 ((out11 ++ ([(⟨p1, v2⟩ : TEntry)] : List TEntry)).map TEntry.c))]) (next' := 5) rfl rfl rfl rfl (elems_own rfl) (by ((try simp only [List.length_append, List.length_cons, List.length_nil, List.length_map, decide_eq_true_eq, decide_eq_false_iff_not] at *) <;> omega)) (by ((try simp only [List.length_append, List.length_cons, List.length_nil, List.length_map, decide_eq_true_eq, decide_eq_false_iff_not] at *) <;> omega)) rfl rfl rfl rfl ?_
      refine GX.m rfl ?_
      refine GX.done ?_
      refine WK.regx mixed ?_
      refine GX.m rfl ?_
      refine GX.done ?_
      refine WK.regx mixed ?_
      iterate 3 refine GX.m rfl ?_
      refine GX.idxT (c := TEntry.c) (x := x13) rfl rfl rfl (Int.natCast_nonneg _) hx39 ?_
      refine GX.q (.agg (TEntry.c x13)) ?_
      refine GX.step (v' := .own 5 3 0 (([x13] : List TEntry)).length) (heap' := [(0, .box (TPrefix.c p1)), (1, .box [.int .u32 p1.A, .int .i64 p1.N, .int .i64 v2]), (3, .row 3 33 (([(⟨p1, v2⟩ : TEntry)] : List TEntry).map TEntry.c)), (4, .row 3 33 ((out11 ++ ([(⟨p1, v2⟩ : TEntry)] : List TEntry)).map TEntry.c)), (5, .row 3 33 (([x13] : List TEntry).map TEntry.c))]) (next' := 6) rfl rfl rfl rfl rfl rfl rfl ?_
      rcases bool_two (decide ((out11 ++ ([(⟨p1, v2⟩ : TEntry)] : List TEntry)).length < 1099511627776)) with hg48 | hg48
      ·simp only [hg48, bb] at hL_39
       try dsimp only at hL_39
       subst hL_39
       try dsimp only at hR
       cases hR
      simp only [hg48, bb] at hL_39
      have hg48_ := of_decide_eq_true hg48
      refine GX.appT (c := TEntry.c) (L := (out11 ++ ([(⟨p1, v2⟩ : TEntry)] : List TEntry))) (X := ([x13] : List TEntry)) (heap' := [(0, .box (TPrefix.c p1)), (1, .box [.int .u32 p1.A, .int .i64 p1.N, .int .i64 v2]), (3, .row 3 33 (([(⟨p1, v2⟩ : TEntry)] : List TEntry).map TEntry.c)), (5, .row 3 33 (([x13] : List TEntry).map TEntry.c)), (6, .row 3 33 (((out11 ++ ([(⟨p1, v2⟩ : TEntry)] : List TEntry)) ++ ([x13] : List TEntry)).map TEntry.c))]) (next' := 7) rfl rfl rfl rfl (elems_own rfl) (by ((try simp only [List.length_append, List.length_cons, List.length_nil, List.length_map, decide_eq_true_eq, decide_eq_false_iff_not] at *) <;> omega)) (by ((try simp only [List.length_append, List.length_cons, List.length_nil, List.length_map, decide_eq_true_eq, decide_eq_false_iff_not] at *) <;> omega)) rfl rfl rfl rfl ?_
      refine GX.m rfl ?_
      refine GX.done ?_
      refine WK.nil (QF.normal (hK43 _ ?_))
      refine WK.regx mixed ?_
      refine GX.m rfl ?_
      refine GX.pure (v' := .int .i64 ((i13 + 1 : Nat) : Int)) rfl rfl rfl rfl (congrArg (PVal.int .i64) (wrap_up hlt39 hlen_39)) ?_
      refine GX.m rfl ?_
      refine GX.done ?_
      refine WK.nil (QF.normal ?_)
      exact hagain_39 _ (c21a.length - (i13 + 1)) ⟨[(4, .ptr 0 0), (8, .ro 3 (c21a.map TEntry.c)), (10, .ptr 1 0), (11, .own 2 3 0 ((out11 ++ ([(⟨p1, v2⟩ : TEntry)] : List TEntry)) ++ ([x13] : List TEntry)).length), (12, .bool true), (13, .int .i64 ((i13 + 1) : Int))], [(0, .box (TPrefix.c p1)), (1, .box [.int .u32 p1.A, .int .i64 p1.N, .int .i64 v2]), (2, .row 3 33 (((out11 ++ ([(⟨p1, v2⟩ : TEntry)] : List TEntry)) ++ ([x13] : List TEntry)).map TEntry.c))], 3⟩ (by omega) (Conv.keep [0, 1, 6] [] [4, 8, 10, 11, 12, 13] rfl rfl (viewE_cons rfl rfl (viewE_cons rfl rfl (viewE_cons rfl rfl (viewE_cons rfl rfl (viewE_cons rfl rfl (viewE_cons rfl rfl viewE_nil)))))) rfl rfl) ⟨i13 + 1, true, ((out11 ++ ([(⟨p1, v2⟩ : TEntry)] : List TEntry)) ++ ([x13] : List TEntry)), (by omega), rfl, hL_39, rfl⟩
    ·rw [hb44]; try simp only [hb44, bb] at hL_39
     iterate 7 refine RD.skip rfl rfl ?_
     refine RD.q (.bool false) ?_
     refine RD.done rfl ?_
     refine WK.condF rfl ?_
     refine WK.skip ?_
     refine WK.regx mixed ?_
     iterate 3 refine GX.m rfl ?_
     refine GX.idxT (c := TEntry.c) (x := x13) rfl rfl rfl (Int.natCast_nonneg _) hx39 ?_
     refine GX.q (.agg (TEntry.c x13)) ?_
     refine GX.step (v' := .own 3 3 0 (([x13] : List TEntry)).length) (heap' := [(0, .box (TPrefix.c p1)), (1, .box [.int .u32 p1.A, .int .i64 p1.N, .int .i64 v2]), (2, .row 3 33 (out11.map TEntry.c)), (3, .row 3 33 (([x13] : List TEntry).map TEntry.c))]) (next' := 4) rfl rfl rfl rfl rfl rfl rfl ?_
     rcases bool_two (decide (out11.length < 1099511627776)) with hg49 | hg49
     ·simp only [hg49, bb] at hL_39
      try dsimp only at hL_39
      subst hL_39
      try dsimp only at hR
      cases hR
     simp only [hg49, bb] at hL_39
     have hg49_ := of_decide_eq_true hg49
     refine GX.appT (c := TEntry.c) (L := out11) (X := ([x13] : List TEntry)) (heap' := [(0, .box (TPrefix.c p1)), (1, .box [.int .u32 p1.A, .int .i64 p1.N, .int .i64 v2]), (3, .row 3 33 (([x13] : List TEntry).map TEntry.c)), (4, .row 3 33 ((out11 ++ ([x13] : List TEntry)).map TEntry.c))]) (next' := 5) rfl rfl rfl rfl (elems_own rfl) (by ((try simp only [List.length_append, List.length_cons, List.length_nil, List.length_map, decide_eq_true_eq, decide_eq_false_iff_not] at *) <;> omega)) (by ((try simp only [List.length_append, List.length_cons, List.length_nil, List.length_map, decide_eq_true_eq, decide_eq_false_iff_not] at *) <;> omega)) rfl rfl rfl rfl ?_
     refine GX.m rfl ?_
     refine GX.done ?_
     refine WK.nil (QF.normal (hK43 _ ?_))
     refine WK.regx mixed ?_
     refine GX.m rfl ?_
     refine GX.pure (v' := .int .i64 ((i13 + 1 : Nat) : Int)) rfl rfl rfl rfl (congrArg (PVal.int .i64) (wrap_up hlt39 hlen_39)) ?_
     refine GX.m rfl ?_
     refine GX.done ?_
     refine WK.nil (QF.normal ?_)
     exact hagain_39 _ (c21a.length - (i13 + 1)) ⟨[(4, .ptr 0 0), (8, .ro 3 (c21a.map TEntry.c)), (10, .ptr 1 0), (11, .own 2 3 0 (out11 ++ ([x13] : List TEntry)).length), (12, .bool true), (13, .int .i64 ((i13 + 1) : Int))], [(0, .box (TPrefix.c p1)), (1, .box [.int .u32 p1.A, .int .i64 p1.N, .int .i64 v2]), (2, .row 3 33 ((out11 ++ ([x13] : List TEntry)).map TEntry.c))], 3⟩ (by omega) (Conv.keep [0, 1, 4] [] [4, 8, 10, 11, 12, 13] rfl rfl (viewE_cons rfl rfl (viewE_cons rfl rfl (viewE_cons rfl rfl (viewE_cons rfl rfl (viewE_cons rfl rfl (viewE_cons rfl rfl viewE_nil)))))) rfl rfl) ⟨i13 + 1, true, (out11 ++ ([x13] : List TEntry)), (by omega), rfl, hL_39, rfl⟩

theorem f24_ok (script0 : List TAct) (R : TTrie × (List TEntry)) (hR : F24_crossroadslaw06_laid script0 = some R) : FnOk Try.prog 24 [.ro 5 (script0.map TAct.c)] [] 0 (.tup [.ptr 0 0, .ro 3 (R.2.map TEntry.c)]) [(0, .box [.own 1 6 0 R.1.l.length, .own 2 1 0 R.1.free.length, .int .i64 R.1.root, .int .i64 R.1.n]), (1, .row 6 69 (R.1.l.map TNode.c)), (2, .row 1 3 (R.1.free.map c_i64))] 3 := by
 refine FnOk.wk i24 rfl rfl ?_
 unfold F24_crossroadslaw06_laid at hR
 try dsimp only at hR
 change WK _ _ _ [ac24] _ ⟨[(0, .ro 5 (script0.map TAct.c))], [], 0⟩
 unfold ac24
 refine WK.sr mixed ?_
 iterate 2 refine GX.m rfl ?_
 refine GX.done ?_
 refine WK.sr mixed ?_
 generalize hc11 : F9_trie_New = c11 at hR
 try dsimp only at hR
 refine GX.callx (r' := .ptr 0 0) (heap' := [(2, .row 1 3 (c11.free.map c_i64)), (1, .row 6 69 (c11.l.map TNode.c)), (0, .box [.own 1 6 0 c11.l.length, .own 2 1 0 c11.free.length, .int .i64 c11.root, .int .i64 c11.n])]) (next' := 3) [] [] rfl rfl rfl rfl rfl rfl (f9_ok  _ hc11) (.inl rfl) rfl rfl rfl ?_
 refine GX.m rfl ?_
 refine GX.done ?_
 refine WK.sr mixed ?_
 refine GX.step (v' := .own 3 3 0 (([] : List TEntry)).length) (heap' := [(2, .row 1 3 (c11.free.map c_i64)), (1, .row 6 69 (c11.l.map TNode.c)), (0, .box [.own 1 6 0 c11.l.length, .own 2 1 0 c11.free.length, .int .i64 c11.root, .int .i64 c11.n]), (3, .row 3 33 (([] : List TEntry).map TEntry.c))]) (next' := 4) rfl rfl rfl rfl rfl rfl rfl ?_
 refine GX.m rfl ?_
 refine GX.done ?_
 refine WK.seq ?_
 refine WK.sr mixed ?_
 refine GX.m rfl ?_
 refine GX.done ?_
 refine WK.len (t := 0) rfl (by simp) (fun hlen_14 => ?_)
 rw [List.length_map] at hlen_14
 generalize hZ_14 : F24_crossroadslaw06_laid_l1 ([] : List TEntry) c11.root c11.n c11.l c11.free 0 script0 = Z_14 at hR
 refine WK.forK (fun k s => ∃ (i6 : Nat) (m5 : List TEntry) (t_2_4 : Int) (t_3_4 : Int) (row1 : List TNode) (row2 : List Int), i6 ≤ script0.length ∧ k = script0.length - i6 ∧ F24_crossroadslaw06_laid_l1 m5 t_2_4 t_3_4 row1 row2 i6 (script0.drop i6) = Z_14 ∧ s = ⟨[(0, .ro 5 (script0.map TAct.c)), (4, .ptr 0 0), (5, .ro 3 (m5.map TEntry.c)), (6, .int .i64 (i6 : Int))], [(0, .box [.own 1 6 0 row1.length, .own 2 1 0 row2.length, .int .i64 t_2_4, .int .i64 t_3_4]), (1, .row 6 69 (row1.map TNode.c)), (2, .row 1 3 (row2.map c_i64))], 3⟩) script0.length ⟨⟨[(0, .ro 5 (script0.map TAct.c)), (4, .ptr 0 0), (5, .ro 3 (([] : List TEntry).map TEntry.c)), (6, .int .i64 (0 : Int))], [(0, .box [.own 1 6 0 c11.l.length, .own 2 1 0 c11.free.length, .int .i64 c11.root, .int .i64 c11.n]), (1, .row 6 69 (c11.l.map TNode.c)), (2, .row 1 3 (c11.free.map c_i64))], 3⟩, Conv.keep [0, 1, 2] [3] [0, 4, 5, 6] rfl rfl (viewE_cons rfl rfl (viewE_cons rfl rfl (viewE_cons rfl (view_rowT rfl rfl) (viewE_cons rfl rfl viewE_nil)))) rfl rfl, 0, ([] : List TEntry), c11.root, c11.n, c11.l, c11.free, (by omega), rfl, hZ_14, rfl⟩ ?_
 rintro _ _ ⟨i6, m5, t_2_4, t_3_4, row1, row2, hi_14, rfl, hL_14, rfl⟩ again_14 out_14 Q_14 hagain_14 hout_14 hQ_14
 refine WK.seq ?_
 refine WK.sr mixed ?_
 refine GX.m rfl ?_
 refine GX.q (.bool true) ?_
 iterate 3 refine GX.m rfl ?_
 refine GX.pure (v' := .int .i64 (script0.length : Int)) rfl rfl rfl rfl (len_map _ _) ?_
 iterate 2 refine GX.q (.bool (decide ((i6 : Int) < (script0.length : Int)))) ?_
 refine GX.m rfl ?_
 rcases bool_two (decide ((i6 : Int) < (script0.length : Int))) with hb15 | hb15
 ·rw [hb15]
  rw [drop_end hb15, F24_crossroadslaw06_laid_l1] at hL_14
  iterate 2 refine GX.skip rfl rfl ?_
  refine GX.q (.bool false) ?_
  refine GX.done ?_
  refine WK.condF rfl ?_
  refine WK.exit ?_
  refine QF.exit (hout_14 _ ?_)
  subst hL_14
  try dsimp only [cond_true, cond_false] at hR
  refine WK.sr mixed ?_
  iterate 4 refine GX.m rfl ?_
  refine GX.done ?_
  refine WK.ret ?_
  obtain rfl := Option.some.inj hR
  exact RetQ.ret [0, 1, 2] [] (.inr rfl) rfl rfl rfl rfl rfl .refl rfl
 ·rw [hb15]
  obtain ⟨x6, hx14, hd14, hlt14⟩ := drop_more hb15
  rw [hd14, F24_crossroadslaw06_laid_l1] at hL_14
  refine GX.m rfl ?_
  iterate 2 refine GX.q (.bool (decide ((i6 : Int) < 150))) ?_
  refine GX.done ?_
  rcases bool_two (decide ((i6 : Int) < 150)) with hb16 | hb16
  ·rw [hb16]; try simp only [hb16, bb] at hL_14
   refine WK.condF rfl ?_
   refine WK.exit ?_
   refine QF.exit (hout_14 _ ?_)
   subst hL_14
   try dsimp only [cond_true, cond_false] at hR
   refine WK.sr mixed ?_
   iterate 4 refine GX.m rfl ?_
   refine GX.done ?_
   refine WK.ret ?_
   obtain rfl := Option.some.inj hR
   exact RetQ.ret [0, 1, 2] [] (.inr rfl) rfl rfl rfl rfl rfl .refl rfl
  ·rw [hb16]; try simp only [hb16, bb] at hL_14
   refine WK.condT rfl ?_
   refine WK.skip ?_
   refine WK.seq ?_
   refine WK.blockK (fun _ hK17 => ?_)
   refine WK.sr mixed ?_
   iterate 2 refine GX.m rfl ?_
   refine GX.idxT (c := TAct.c) (x := x6) rfl rfl rfl (Int.natCast_nonneg _) hx14 ?_
   refine GX.q (.rptr (TAct.c x6)) ?_
   refine GX.q (.bool x6.Drop) ?_
   refine GX.done ?_
   rcases bool_two (x6.Drop) with hb18 | hb18
   ·rw [hb18]; try simp only [hb18, bb] at hL_14
    refine WK.condF rfl ?_
    refine WK.seq ?_
    refine WK.drawn mixed ?_
    iterate 3 refine RD.m rfl ?_
    refine RD.idxT (c := TAct.c) (x := x6) rfl rfl rfl (Int.natCast_nonneg _) hx14 ?_
    refine RD.q (.rptr [.int .u32 x6.P.A, .int .i64 x6.P.N, .int .i64 x6.V, .int .u32 x6.A]) ?_
    refine RD.q (.agg [.int .u32 x6.P.A, .int .i64 x6.P.N]) ?_
    iterate 2 refine RD.m rfl ?_
    refine RD.idxT (c := TAct.c) (x := x6) rfl rfl rfl (Int.natCast_nonneg _) hx14 ?_
    refine RD.q (.rptr [.int .i64 x6.V, .int .u32 x6.A]) ?_
    refine RD.q (.int .i64 x6.V) ?_
    generalize hc61 : F10_trie_Trie_Set (⟨row1, row2, t_2_4, t_3_4⟩ : TTrie) x6.P x6.V = c61 at hL_14
    rcases c61 with _ | c61
    ·try dsimp only at hL_14
     subst hL_14
     try dsimp only at hR
     cases hR
    try dsimp only at hL_14
    obtain ⟨c61a, c61b⟩ := c61; try dsimp only at hL_14
    refine RD.callx (r' := .int .i64 c61a) (heap' := [(0, .box [.own 3 6 0 c61b.l.length, .own 4 1 0 c61b.free.length, .int .i64 c61b.root, .int .i64 c61b.n]), (4, .row 1 3 (c61b.free.map c_i64)), (3, .row 6 69 (c61b.l.map TNode.c))]) (next' := 5) [0, 1, 2] [] rfl rfl rfl rfl rfl rfl (f10_ok (⟨row1, row2, t_2_4, t_3_4⟩ : TTrie) x6.P x6.V _ hc61) (.inl rfl) rfl rfl rfl ?_
    refine RD.done rfl ?_
    refine WK.seq ?_
    refine WK.drawn mixed ?_
    iterate 3 refine RD.m rfl ?_
    refine RD.idxT (c := TAct.c) (x := x6) rfl rfl rfl (Int.natCast_nonneg _) hx14 ?_
    refine RD.q (.rptr [.int .u32 x6.P.A, .int .i64 x6.P.N, .int .i64 x6.V, .int .u32 x6.A]) ?_
    refine RD.q (.agg [.int .u32 x6.P.A, .int .i64 x6.P.N]) ?_
    iterate 2 refine RD.m rfl ?_
    refine RD.idxT (c := TAct.c) (x := x6) rfl rfl rfl (Int.natCast_nonneg _) hx14 ?_
    refine RD.q (.rptr [.int .i64 x6.V, .int .u32 x6.A]) ?_
    refine RD.q (.int .i64 x6.V) ?_
    generalize hc74 : F18_crossroadsref06_Set m5 x6.P x6.V = c74 at hL_14
    rcases c74 with _ | c74
    ·try dsimp only at hL_14
     subst hL_14
     try dsimp only at hR
     cases hR
    try dsimp only at hL_14
    obtain ⟨c74a, c74b⟩ := c74; try dsimp only at hL_14
    refine RD.callp (r := .tup [.ro 3 (c74a.map TEntry.c), .int .i64 c74b]) rfl rfl rfl (f18_ok m5 x6.P x6.V _ hc74) rfl rfl ?_
    refine RD.m rfl ?_
    refine RD.q (.ro 3 (c74a.map TEntry.c)) ?_
    refine RD.q (.int .i64 c74b) ?_
    iterate 2 refine RD.m rfl ?_
    refine RD.done rfl ?_
    refine WK.regx mixed ?_
    iterate 2 refine GX.m rfl ?_
    refine GX.done ?_
    refine WK.nil (QF.normal (hK17 _ ?_))
    refine WK.regx mixed ?_
    refine GX.m rfl ?_
    refine GX.pure (v' := .int .i64 ((i6 + 1 : Nat) : Int)) rfl rfl rfl rfl (congrArg (PVal.int .i64) (wrap_up hlt14 hlen_14)) ?_
    refine GX.m rfl ?_
    refine GX.done ?_
    refine WK.nil (QF.normal ?_)
    exact hagain_14 _ (script0.length - (i6 + 1)) ⟨[(0, .ro 5 (script0.map TAct.c)), (4, .ptr 0 0), (5, .ro 3 (c74a.map TEntry.c)), (6, .int .i64 ((i6 + 1) : Int))], [(0, .box [.own 1 6 0 c61b.l.length, .own 2 1 0 c61b.free.length, .int .i64 c61b.root, .int .i64 c61b.n]), (1, .row 6 69 (c61b.l.map TNode.c)), (2, .row 1 3 (c61b.free.map c_i64))], 3⟩ (by omega) (Conv.keep [0, 3, 4] [] [0, 4, 5, 6] rfl rfl (viewE_cons rfl rfl (viewE_cons rfl rfl (viewE_cons rfl rfl (viewE_cons rfl rfl viewE_nil)))) rfl rfl) ⟨i6 + 1, c74a, c61b.root, c61b.n, c61b.l, c61b.free, (by omega), rfl, hL_14, rfl⟩
   ·rw [hb18]; try simp only [hb18, bb] at hL_14
    refine WK.condT rfl ?_
    refine WK.sr mixed ?_
    iterate 3 refine GX.m rfl ?_
    refine GX.idxT (c := TAct.c) (x := x6) rfl rfl rfl (Int.natCast_nonneg _) hx14 ?_
    refine GX.q (.rptr [.int .u32 x6.P.A, .int .i64 x6.P.N, .int .i64 x6.V, .int .u32 x6.A]) ?_
    refine GX.q (.agg [.int .u32 x6.P.A, .int .i64 x6.P.N]) ?_
    generalize hc38 : F16_trie_Trie_Drop (⟨row1, row2, t_2_4, t_3_4⟩ : TTrie) x6.P = c38 at hL_14
    rcases c38 with _ | c38
    ·try dsimp only at hL_14
     subst hL_14
     try dsimp only at hR
     cases hR
    try dsimp only at hL_14
    obtain ⟨c38a, c38b⟩ := c38; try dsimp only at hL_14
    refine GX.callx (r' := .bool c38a) (heap' := [(0, .box [.own 3 6 0 c38b.l.length, .own 4 1 0 c38b.free.length, .int .i64 c38b.root, .int .i64 c38b.n]), (4, .row 1 3 (c38b.free.map c_i64)), (3, .row 6 69 (c38b.l.map TNode.c))]) (next' := 5) [0, 1, 2] [] rfl rfl rfl rfl rfl rfl (f16_ok (⟨row1, row2, t_2_4, t_3_4⟩ : TTrie) x6.P _ hc38) (.inl rfl) rfl rfl rfl ?_
    refine GX.done ?_
    refine WK.sr mixed ?_
    iterate 3 refine GX.m rfl ?_
    refine GX.idxT (c := TAct.c) (x := x6) rfl rfl rfl (Int.natCast_nonneg _) hx14 ?_
    refine GX.q (.rptr [.int .u32 x6.P.A, .int .i64 x6.P.N, .int .i64 x6.V, .int .u32 x6.A]) ?_
    refine GX.q (.agg [.int .u32 x6.P.A, .int .i64 x6.P.N]) ?_
    generalize hc46 : F17_crossroadsref06_Drop m5 x6.P = c46 at hL_14
    rcases c46 with _ | c46
    ·try dsimp only at hL_14
     subst hL_14
     try dsimp only at hR
     cases hR
    try dsimp only at hL_14
    obtain ⟨c46a, c46b⟩ := c46; try dsimp only at hL_14
    refine GX.callp (r := .tup [.ro 3 (c46a.map TEntry.c), .bool c46b]) rfl rfl rfl (f17_ok m5 x6.P _ hc46) rfl rfl ?_
    refine GX.m rfl ?_
    refine GX.q (.ro 3 (c46a.map TEntry.c)) ?_
    refine GX.q (.bool c46b) ?_
    iterate 2 refine GX.m rfl ?_
    refine GX.done ?_
    refine WK.regx mixed ?_
    iterate 2 refine GX.m rfl ?_
    refine GX.done ?_
    refine WK.nil (QF.normal (hK17 _ ?_))
    refine WK.regx mixed ?_
    refine GX.m rfl ?_
    refine GX.pure (v' := .int .i64 ((i6 + 1 : Nat) : Int)) rfl rfl rfl rfl (congrArg (PVal.int .i64) (wrap_up hlt14 hlen_14)) ?_
    refine GX.m rfl ?_
    refine GX.done ?_
    refine WK.nil (QF.normal ?_)
    exact hagain_14 _ (script0.length - (i6 + 1)) ⟨[(0, .ro 5 (script0.map TAct.c)), (4, .ptr 0 0), (5, .ro 3 (c46a.map TEntry.c)), (6, .int .i64 ((i6 + 1) : Int))], [(0, .box [.own 1 6 0 c38b.l.length, .own 2 1 0 c38b.free.length, .int .i64 c38b.root, .int .i64 c38b.n]), (1, .row 6 69 (c38b.l.map TNode.c)), (2, .row 1 3 (c38b.free.map c_i64))], 3⟩ (by omega) (Conv.keep [0, 3, 4] [] [0, 4, 5, 6] rfl rfl (viewE_cons rfl rfl (viewE_cons rfl rfl (viewE_cons rfl rfl (viewE_cons rfl rfl viewE_nil)))) rfl rfl) ⟨i6 + 1, c46a, c38b.root, c38b.n, c38b.l, c38b.free, (by omega), rfl, hL_14, rfl⟩

theorem f26_ok (l0 : List TEntry) (p1 : TPrefix) (R : Int × Bool) (hR : F26_crossroadsref06_Get l0 p1 = R) : FnOk Try.prog 26 [.ro 3 (l0.map TEntry.c), .agg (TPrefix.c p1)] [] 0 (.tup [.int .i64 R.1, .bool R.2]) [] 0 := by
 refine FnOk.wk i26 rfl rfl ?_
 unfold F26_crossroadsref06_Get at hR
 change WK _ _ _ [ac26] _ ⟨[(0, .ro 3 (l0.map TEntry.c)), (1, .agg (TPrefix.c p1))], [], 0⟩
 unfold ac26
 refine WK.sr mixed ?_
 refine GX.step (v' := .ptr 0 0) (heap' := [(0, .box (TPrefix.c p1))]) (next' := 1) rfl rfl rfl rfl rfl rfl rfl ?_
 iterate 2 refine GX.m rfl ?_
 refine GX.done ?_
 refine WK.seq ?_
 refine WK.sr mixed ?_
 refine GX.m rfl ?_
 refine GX.done ?_
 refine WK.len (t := 0) rfl (by simp) (fun hlen_1 => ?_)
 rw [List.length_map] at hlen_1
 generalize hZ_1 : F26_crossroadsref06_Get_l1 p1 l0 = Z_1 at hR
 refine WK.forK (fun k s => ∃ (i6 : Nat), i6 ≤ l0.length ∧ k = l0.length - i6 ∧ F26_crossroadsref06_Get_l1 p1 (l0.drop i6) = Z_1 ∧ s = ⟨[(0, .ro 3 (l0.map TEntry.c)), (3, .ptr 0 0), (6, .int .i64 (i6 : Int))], [(0, .box (TPrefix.c p1))], 1⟩) l0.length ⟨⟨[(0, .ro 3 (l0.map TEntry.c)), (3, .ptr 0 0), (6, .int .i64 (0 : Int))], [(0, .box (TPrefix.c p1))], 1⟩, Conv.keep [0] [] [0, 3, 6] rfl rfl (viewE_cons rfl rfl (viewE_cons rfl rfl (viewE_cons rfl rfl viewE_nil))) rfl rfl, 0, (by omega), rfl, hZ_1, rfl⟩ ?_
 rintro _ _ ⟨i6, hi_1, rfl, hL_1, rfl⟩ again_1 out_1 Q_1 hagain_1 hout_1 hQ_1
 refine WK.seq ?_
 refine WK.sr mixed ?_
 iterate 2 refine GX.m rfl ?_
 refine GX.pure (v' := .int .i64 (l0.length : Int)) rfl rfl rfl rfl (len_map _ _) ?_
 refine GX.q (.bool (decide ((i6 : Int) < (l0.length : Int)))) ?_
 refine GX.done ?_
 rcases bool_two (decide ((i6 : Int) < (l0.length : Int))) with hb2 | hb2
 ·rw [hb2]
  rw [drop_end hb2, F26_crossroadsref06_Get_l1] at hL_1
  refine WK.condF rfl ?_
  refine WK.exit ?_
  refine QF.exit (hout_1 _ ?_)
  subst hL_1
  try dsimp only [cond_true, cond_false] at hR
  refine WK.sr mixed ?_
  iterate 2 refine GX.m rfl ?_
  refine GX.done ?_
  refine WK.ret ?_
  subst hR
  exact RetQ.fr [] (.inr rfl) rfl rfl rfl rfl
 ·rw [hb2]
  obtain ⟨x6, hx1, hd1, hlt1⟩ := drop_more hb2
  rw [hd1, F26_crossroadsref06_Get_l1] at hL_1
  refine WK.condT rfl ?_
  refine WK.skip ?_
  refine WK.seq ?_
  refine WK.blockK (fun _ hK3 => ?_)
  refine WK.seq ?_
  refine WK.drawn mixed ?_
  iterate 2 refine RD.m rfl ?_
  refine RD.idxT (c := TEntry.c) (x := x6) rfl rfl rfl (Int.natCast_nonneg _) hx1 ?_
  refine RD.q (.rptr (TEntry.c x6)) ?_
  refine RD.q (.agg [.int .u32 x6.P.A, .int .i64 x6.P.N]) ?_
  refine RD.q (.agg (TPrefix.c p1)) ?_
  refine RD.q (.bool (decide (x6.P.A = p1.A) && (decide (x6.P.N = p1.N) && true))) ?_
  refine RD.done rfl ?_
  rcases bool_two ((decide (x6.P.A = p1.A) && (decide (x6.P.N = p1.N) && true))) with hb4 | hb4
  ·rw [hb4]; try simp only [hb4, bb] at hL_1
   refine WK.condF rfl ?_
   refine WK.skip ?_
   refine WK.nil (QF.normal (hK3 _ ?_))
   refine WK.regx mixed ?_
   refine GX.m rfl ?_
   refine GX.pure (v' := .int .i64 ((i6 + 1 : Nat) : Int)) rfl rfl rfl rfl (congrArg (PVal.int .i64) (wrap_up hlt1 hlen_1)) ?_
   refine GX.m rfl ?_
   refine GX.done ?_
   refine WK.nil (QF.normal ?_)
   exact hagain_1 _ (l0.length - (i6 + 1)) ⟨[(0, .ro 3 (l0.map TEntry.c)), (3, .ptr 0 0), (6, .int .i64 ((i6 + 1) : Int))], [(0, .box (TPrefix.c p1))], 1⟩ (by omega) (Conv.keep [0] [] [0, 3, 6] rfl rfl (viewE_cons rfl rfl (viewE_cons rfl rfl (viewE_cons rfl rfl viewE_nil))) rfl rfl) ⟨i6 + 1, (by omega), rfl, hL_1, rfl⟩
  ·rw [hb4]; try simp only [hb4, bb] at hL_1
   refine WK.condT rfl ?_
   refine WK.sr mixed ?_
   iterate 2 refine GX.m rfl ?_
   refine GX.idxT (c := TEntry.c) (x := x6) rfl rfl rfl (Int.natCast_nonneg _) hx1 ?_
   refine GX.q (.rptr [.int .i64 x6.V]) ?_
   refine GX.q (.int .i64 x6.V) ?_
   iterate 2 refine GX.m rfl ?_
   refine GX.done ?_
   refine WK.ret ?_
   refine QF.ret ?_
   refine QF.ret (hQ_1 _ _ ?_)
   subst hL_1
   subst hR
   exact RetQ.fr [] (.inr rfl) rfl rfl rfl rfl

theorem f5_ok (script0 : List TAct) (q1 : TPrefix) (R : Bool) (hR : F5_crossroadslaw06_TrieGets script0 q1 = some R) : FnOk Try.prog 5 [.ro 5 (script0.map TAct.c), .agg (TPrefix.c q1)] [] 0 (.bool R) [] 0 := by
 refine FnOk.wk i5 rfl rfl ?_
 unfold F5_crossroadslaw06_TrieGets at hR
 try dsimp only at hR
 change WK _ _ _ [ac5] _ ⟨[(0, .ro 5 (script0.map TAct.c)), (1, .agg (TPrefix.c q1))], [], 0⟩
 unfold ac5
 refine WK.sr mixed ?_
 refine GX.step (v' := .ptr 0 0) (heap' := [(0, .box (TPrefix.c q1))]) (next' := 1) rfl rfl rfl rfl rfl rfl rfl ?_
 refine GX.m rfl ?_
 refine GX.done ?_
 refine WK.sr mixed ?_
 refine GX.m rfl ?_
 generalize hc13 : F24_crossroadslaw06_laid script0 = c13 at hR
 rcases c13 with _ | c13
 ·try dsimp only at hR
  cases hR
 try dsimp only at hR
 obtain ⟨c13a, c13b⟩ := c13; try dsimp only at hR
 refine GX.callx (r' := .tup [.ptr 1 0, .ro 3 (c13b.map TEntry.c)]) (heap' := [(0, .box (TPrefix.c q1)), (3, .row 1 3 (c13a.free.map c_i64)), (2, .row 6 69 (c13a.l.map TNode.c)), (1, .box [.own 2 6 0 c13a.l.length, .own 3 1 0 c13a.free.length, .int .i64 c13a.root, .int .i64 c13a.n])]) (next' := 4) [] [] rfl rfl rfl rfl rfl rfl (f24_ok script0 _ hc13) (.inl rfl) rfl rfl rfl ?_
 refine GX.m rfl ?_
 refine GX.q (.ptr 1 0) ?_
 refine GX.q (.ro 3 (c13b.map TEntry.c)) ?_
 iterate 2 refine GX.m rfl ?_
 refine GX.done ?_
 refine WK.seq ?_
 refine WK.sr mixed ?_
 refine GX.m rfl ?_
 refine GX.q (.bool false) ?_
 refine GX.done ?_
 refine WK.condF rfl ?_
 refine WK.skip ?_
 refine WK.sr mixed ?_
 refine GX.m rfl ?_
 refine GX.q (.agg (TPrefix.c q1)) ?_
 generalize hc21 : F25_trie_Trie_Get c13a q1 = c21 at hR
 rcases c21 with _ | c21
 ·try dsimp only at hR
  cases hR
 try dsimp only at hR
 obtain ⟨c21a, c21b⟩ := c21; try dsimp only at hR
 refine GX.callx (r' := .tup [.int .i64 c21a, .bool c21b]) (heap' := [(0, .box (TPrefix.c q1)), (3, .row 1 3 (c13a.free.map c_i64)), (2, .row 6 69 (c13a.l.map TNode.c)), (1, .box [.own 2 6 0 c13a.l.length, .own 3 1 0 c13a.free.length, .int .i64 c13a.root, .int .i64 c13a.n])]) (next' := 4) [1, 2, 3] [] rfl rfl rfl rfl rfl rfl (f25_ok c13a q1 _ hc21) (.inl rfl) rfl rfl rfl ?_
 refine GX.m rfl ?_
 refine GX.q (.int .i64 c21a) ?_
 refine GX.q (.bool c21b) ?_
 iterate 2 refine GX.m rfl ?_
 refine GX.done ?_
 refine WK.sr mixed ?_
 refine GX.m rfl ?_
 refine GX.q (.agg (TPrefix.c q1)) ?_
 generalize hc27 : F26_crossroadsref06_Get c13b q1 = c27 at hR
 obtain ⟨c27a, c27b⟩ := c27; try dsimp only at hR
 refine GX.callp (r := .tup [.int .i64 c27a, .bool c27b]) rfl rfl rfl (f26_ok c13b q1 _ hc27) rfl rfl ?_
 refine GX.m rfl ?_
 refine GX.q (.int .i64 c27a) ?_
 refine GX.q (.bool c27b) ?_
 iterate 2 refine GX.m rfl ?_
 refine GX.done ?_
 refine WK.sr mixed ?_
 generalize hc30 : F12_crossroadslaw06_alive = c30 at hR
 try dsimp only at hR
 refine GX.callp (r := .bool c30) rfl rfl rfl (f12_ok  _ hc30) rfl rfl ?_
 refine GX.m rfl ?_
 rcases bool_two (c30) with hb3 | hb3
 ·rw [hb3]; first | replace hR := cond_f hb3 hR | (try simp only [hb3, bb] at hR)
  iterate 3 refine GX.skip rfl rfl ?_
  refine GX.q (.bool false) ?_
  refine GX.m rfl ?_
  iterate 3 refine GX.skip rfl rfl ?_
  refine GX.q (.bool false) ?_
  refine GX.m rfl ?_
  iterate 4 refine GX.skip rfl rfl ?_
  refine GX.q (.bool false) ?_
  refine GX.m rfl ?_
  refine GX.done ?_
  refine WK.ret ?_
  obtain rfl := Option.some.inj hR
  exact RetQ.fr [] (.inr rfl) rfl rfl rfl rfl
 ·rw [hb3]; first | replace hR := cond_t hb3 hR | (try simp only [hb3, bb] at hR)
  iterate 2 refine GX.m rfl ?_
  iterate 2 refine GX.q (.bool (decide (c21a = c27a))) ?_
  refine GX.m rfl ?_
  rcases bool_two (decide (c21a = c27a)) with hb4 | hb4
  ·rw [hb4]; try simp only [hb4, bb] at hR
   iterate 3 refine GX.skip rfl rfl ?_
   refine GX.q (.bool false) ?_
   refine GX.m rfl ?_
   iterate 4 refine GX.skip rfl rfl ?_
   refine GX.q (.bool false) ?_
   refine GX.m rfl ?_
   refine GX.done ?_
   refine WK.ret ?_
   obtain rfl := Option.some.inj hR
   exact RetQ.fr [] (.inr rfl) rfl rfl rfl rfl
  ·rw [hb4]; try simp only [hb4, bb] at hR
   iterate 2 refine GX.m rfl ?_
   iterate 2 refine GX.q (.bool (c21b == c27b)) ?_
   refine GX.m rfl ?_
   rcases bool_two ((c21b == c27b)) with hb5 | hb5
   ·rw [hb5]; try simp only [hb5, bb] at hR
    iterate 4 refine GX.skip rfl rfl ?_
    refine GX.q (.bool false) ?_
    refine GX.m rfl ?_
    refine GX.done ?_
    refine WK.ret ?_
    obtain rfl := Option.some.inj hR
    exact RetQ.fr [] (.inr rfl) rfl rfl rfl rfl
   ·rw [hb5]; try simp only [hb5, bb] at hR
    refine GX.m rfl ?_
    generalize hc43 : F14_trie_Trie_Walk c13a = c43 at hR
    rcases c43 with _ | c43
    ·try dsimp only at hR
     cases hR
    try dsimp only at hR
    try dsimp only at hR
    refine GX.callx (r' := .ro 3 (c43.map TEntry.c)) (heap' := [(0, .box (TPrefix.c q1)), (3, .row 1 3 (c13a.free.map c_i64)), (2, .row 6 69 (c13a.l.map TNode.c)), (1, .box [.own 2 6 0 c13a.l.length, .own 3 1 0 c13a.free.length, .int .i64 c13a.root, .int .i64 c13a.n])]) (next' := 4) [1, 2, 3] [] rfl rfl rfl rfl rfl rfl (f14_ok c13a _ hc43) (.inl rfl) rfl rfl rfl ?_
    refine GX.m rfl ?_
    generalize hc45 : F13_crossroadsref06_Same c43 c13b = c45 at hR
    try dsimp only at hR
    refine GX.callp (r := .bool c45) rfl rfl rfl (f13_ok c43 c13b _ hc45) rfl rfl ?_
    refine GX.q (.bool c45) ?_
    refine GX.m rfl ?_
    refine GX.done ?_
    refine WK.ret ?_
    obtain rfl := Option.some.inj hR
    exact RetQ.fr [] (.inr rfl) rfl rfl rfl rfl

end Go.Proofs.Ytakallenldpkiaa.Abs
