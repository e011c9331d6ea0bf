/- The functions walked: each computes its Lean function (printed by this work's own program gen.py). -/
import Derived.Test.YtakallenldpkiaaSz
import Derived.Test.YtakallenldpkiaaW1
set_option linter.unusedVariables false
set_option linter.unusedSimpArgs false
set_option maxRecDepth 10000
set_option maxHeartbeats 4000000
namespace Go.Proofs.Ytakallenldpkiaa.Abs
open Go

theorem f18_ok (l0 : List TEntry) (p1 : TPrefix) (v2 : Int) (R : (List TEntry) × Int) (hR : F18_crossroadsref06_Set l0 p1 v2 = some R) : FnOk Try.prog 18 [.ro 3 (l0.map TEntry.c), .agg (TPrefix.c p1), .int .i64 v2] [] 0 (.tup [.ro 3 (R.1.map TEntry.c), .int .i64 R.2]) [] 0 := by
 refine FnOk.wk i18 rfl rfl ?_
 unfold F18_crossroadsref06_Set at hR
 try dsimp only at hR
 change WK _ _ _ [ac18] _ ⟨[(0, .ro 3 (l0.map TEntry.c)), (1, .agg (TPrefix.c p1)), (2, .int .i64 v2)], [], 0⟩
 unfold ac18
 refine WK.sr mixed ?_
 refine GX.step (v' := .ptr 0 0) (heap' := [(0, .box (TPrefix.c p1))]) (next' := 1) rfl rfl rfl rfl rfl rfl rfl ?_
 iterate 2 refine GX.m rfl ?_
 refine GX.done ?_
 refine WK.seq ?_
 refine WK.sr mixed ?_
 refine GX.q (.agg (TPrefix.c p1)) ?_
 generalize hc15 : F28_crossroadsref03_May p1 = c15 at hR
 try dsimp only at hR
 refine GX.callp (r := .bool c15) rfl rfl rfl (f28_ok p1 _ hc15) rfl rfl ?_
 refine GX.q (.bool (!c15)) ?_
 refine GX.done ?_
 rcases bool_two (c15) with hb1 | hb1
 ·rw [hb1]; first | replace hR := cond_f hb1 hR | (try simp only [hb1, bb] at hR)
  refine WK.condT rfl ?_
  refine WK.sr mixed ?_
  iterate 3 refine GX.m rfl ?_
  refine GX.done ?_
  refine WK.ret ?_
  obtain rfl := Option.some.inj hR
  exact RetQ.fr [] (.inr rfl) rfl rfl rfl rfl
 ·rw [hb1]; first | replace hR := cond_t hb1 hR | (try simp only [hb1, bb] at hR)
  refine WK.condF rfl ?_
  refine WK.skip ?_
  refine WK.sr mixed ?_
  refine GX.m rfl ?_
  refine GX.q (.agg (TPrefix.c p1)) ?_
  generalize hc21 : F17_crossroadsref06_Drop l0 p1 = c21 at hR
  rcases c21 with _ | c21
  ·try dsimp only at hR
   cases hR
  try dsimp only at hR
  obtain ⟨c21a, c21b⟩ := c21; try dsimp only at hR
  refine GX.callp (r := .tup [.ro 3 (c21a.map TEntry.c), .bool c21b]) rfl rfl rfl (f17_ok l0 p1 _ hc21) rfl rfl ?_
  refine GX.m rfl ?_
  refine GX.q (.ro 3 (c21a.map TEntry.c)) ?_
  refine GX.q (.bool c21b) ?_
  iterate 2 refine GX.m rfl ?_
  refine GX.done ?_
  refine WK.seq ?_
  refine WK.sr mixed ?_
  refine GX.m rfl ?_
  refine GX.q (.bool (!c21b)) ?_
  refine GX.m rfl ?_
  rcases bool_two (c21b) with hb2 | hb2
  ·rw [hb2]; first | replace hR := cond_f hb2 hR | (try simp only [hb2, bb] at hR)
   refine GX.m rfl ?_
   refine GX.pure (v' := .int .i64 (l0.length : Int)) rfl rfl rfl rfl (len_map _ _) ?_
   iterate 2 refine GX.q (.bool (decide (5000 ≤ (l0.length : Int)))) ?_
   refine GX.done ?_
   rcases bool_two (decide (5000 ≤ (l0.length : Int))) with hb3 | hb3
   ·rw [hb3]; try simp only [hb3, bb] at hR
    refine WK.condF rfl ?_
    refine WK.skip ?_
    refine WK.sr mixed ?_
    refine GX.q (.agg (TPrefix.c p1)) ?_
    refine GX.m rfl ?_
    refine GX.q (.agg [.int .u32 p1.A, .int .i64 p1.N, .int .i64 v2]) ?_
    refine GX.step (v' := .ptr 1 0) (heap' := [(0, .box (TPrefix.c p1)), (1, .box [.int .u32 0, .int .i64 0, .int .i64 0])]) (next' := 2) rfl rfl rfl rfl rfl rfl rfl ?_
    refine GX.step0 (heap' := [(0, .box (TPrefix.c p1)), (1, .box [.int .u32 p1.A, .int .i64 p1.N, .int .i64 v2])]) (next' := 2) rfl rfl rfl rfl rfl ?_
    refine GX.done ?_
    refine WK.sr mixed ?_
    refine GX.step (v' := .own 2 3 0 (([] : List TEntry)).length) (heap' := [(0, .box (TPrefix.c p1)), (1, .box [.int .u32 p1.A, .int .i64 p1.N, .int .i64 v2]), (2, .row 3 33 (([] : List TEntry).map TEntry.c))]) (next' := 3) rfl rfl rfl rfl rfl rfl rfl ?_
    refine GX.m rfl ?_
    refine GX.done ?_
    refine WK.sr mixed ?_
    refine GX.m rfl ?_
    refine GX.done ?_
    refine WK.seq ?_
    refine WK.sr mixed ?_
    refine GX.m rfl ?_
    refine GX.done ?_
    refine WK.len (t := 22) rfl (by simp) (fun hlen_16 => ?_)
    rw [List.length_map] at hlen_16
    generalize hZ_16 : F18_crossroadsref06_Set_l1 p1 v2 false ([] : List TEntry) c21a = Z_16 at hR
    refine WK.forK (fun k s => ∃ (i13 : Nat) (put12 : Bool) (out11 : List TEntry), i13 ≤ c21a.length ∧ k = c21a.length - i13 ∧ F18_crossroadsref06_Set_l1 p1 v2 put12 out11 (c21a.drop i13) = Z_16 ∧ s = ⟨[(4, .ptr 0 0), (8, .ro 3 (c21a.map TEntry.c)), (10, .ptr 1 0), (11, .own 2 3 0 out11.length), (12, .bool put12), (13, .int .i64 (i13 : Int))], [(0, .box (TPrefix.c p1)), (1, .box [.int .u32 p1.A, .int .i64 p1.N, .int .i64 v2]), (2, .row 3 33 (out11.map TEntry.c))], 3⟩) c21a.length ⟨⟨[(4, .ptr 0 0), (8, .ro 3 (c21a.map TEntry.c)), (10, .ptr 1 0), (11, .own 2 3 0 ([] : List TEntry).length), (12, .bool false), (13, .int .i64 (0 : Int))], [(0, .box (TPrefix.c p1)), (1, .box [.int .u32 p1.A, .int .i64 p1.N, .int .i64 v2]), (2, .row 3 33 (([] : List TEntry).map TEntry.c))], 3⟩, Conv.keep [0, 1, 2] [] [4, 8, 10, 11, 12, 13] rfl rfl (viewE_cons rfl rfl (viewE_cons rfl rfl (viewE_cons rfl rfl (viewE_cons rfl rfl (viewE_cons rfl rfl (viewE_cons rfl rfl viewE_nil)))))) rfl rfl, 0, false, ([] : List TEntry), (by omega), rfl, hZ_16, rfl⟩ ?_
    rintro _ _ ⟨i13, put12, out11, hi_16, rfl, hL_16, rfl⟩ again_16 out_16 Q_16 hagain_16 hout_16 hQ_16
    refine WK.seq ?_
    refine WK.sr mixed ?_
    iterate 2 refine GX.m rfl ?_
    refine GX.pure (v' := .int .i64 (c21a.length : Int)) rfl rfl rfl rfl (len_map _ _) ?_
    refine GX.q (.bool (decide ((i13 : Int) < (c21a.length : Int)))) ?_
    refine GX.done ?_
    rcases bool_two (decide ((i13 : Int) < (c21a.length : Int))) with hb17 | hb17
    ·rw [hb17]
     rw [drop_end hb17, F18_crossroadsref06_Set_l1] at hL_16
     refine WK.condF rfl ?_
     refine WK.exit ?_
     refine QF.exit (hout_16 _ ?_)
     subst hL_16
     try dsimp only [cond_true, cond_false] at hR
     refine WK.seq ?_
     refine WK.sr mixed ?_
     refine GX.m rfl ?_
     refine GX.q (.bool (!put12)) ?_
     refine GX.done ?_
     rcases bool_two (put12) with hb18 | hb18
     ·rw [hb18]; first | replace hR := cond_f hb18 hR | (try simp only [hb18, bb] at hR)
      refine WK.condT rfl ?_
      refine WK.regx mixed ?_
      refine GX.m rfl ?_
      refine GX.q (.agg [.int .u32 p1.A, .int .i64 p1.N, .int .i64 v2]) ?_
      refine GX.step (v' := .own 3 3 0 (([(⟨p1, v2⟩ : TEntry)] : List TEntry)).length) (heap' := [(0, .box (TPrefix.c p1)), (1, .box [.int .u32 p1.A, .int .i64 p1.N, .int .i64 v2]), (2, .row 3 33 (out11.map TEntry.c)), (3, .row 3 33 (([(⟨p1, v2⟩ : TEntry)] : List TEntry).map TEntry.c))]) (next' := 4) rfl rfl rfl rfl rfl rfl rfl ?_
      rcases bool_two (decide (out11.length < 1099511627776)) with hg19 | hg19
      ·simp only [hg19, bb] at hR
       try dsimp only at hR
       cases hR
      simp only [hg19, bb] at hR
      have hg19_ := of_decide_eq_true hg19
      refine GX.appT (c := TEntry.c) (L := out11) (X := ([(⟨p1, v2⟩ : TEntry)] : List TEntry)) (heap' := [(0, .box (TPrefix.c p1)), (1, .box [.int .u32 p1.A, .int .i64 p1.N, .int .i64 v2]), (3, .row 3 33 (([(⟨p1, v2⟩ : TEntry)] : List TEntry).map TEntry.c)), (4, .row 3 33 ((out11 ++ ([(⟨p1, v2⟩ : TEntry)] : List TEntry)).map TEntry.c))]) (next' := 5) rfl rfl rfl rfl (elems_own rfl) (by ((try simp only [List.length_append, List.length_cons, List.length_nil, List.length_map, decide_eq_true_eq, decide_eq_false_iff_not] at *) <;> omega)) (by ((try simp only [List.length_append, List.length_cons, List.length_nil, List.length_map, decide_eq_true_eq, decide_eq_false_iff_not] at *) <;> omega)) rfl rfl rfl rfl ?_
      refine GX.m rfl ?_
      refine GX.done ?_
      refine WK.sr mixed ?_
      iterate 3 refine GX.m rfl ?_
      refine GX.done ?_
      refine WK.ret ?_
      obtain rfl := Option.some.inj hR
      exact RetQ.fr [4] (.inr rfl) rfl rfl (viewGo_cons (view_rowT rfl rfl) (viewGo_cons rfl viewGo_nil)) rfl
     ·rw [hb18]; first | replace hR := cond_t hb18 hR | (try simp only [hb18, bb] at hR)
      refine WK.condF rfl ?_
      refine WK.skip ?_
      refine WK.sr mixed ?_
      iterate 3 refine GX.m rfl ?_
      refine GX.done ?_
      refine WK.ret ?_
      obtain rfl := Option.some.inj hR
      exact RetQ.fr [2] (.inr rfl) rfl rfl (viewGo_cons (view_rowT rfl rfl) (viewGo_cons rfl viewGo_nil)) rfl
    ·rw [hb17]
     obtain ⟨x13, hx16, hd16, hlt16⟩ := drop_more hb17
     rw [hd16, F18_crossroadsref06_Set_l1] at hL_16
     refine WK.condT rfl ?_
     refine WK.skip ?_
     refine WK.seq ?_
     refine WK.blockK (fun _ hK20 => ?_)
     iterate 2 refine WK.seq ?_
     refine WK.drawn mixed ?_
     refine RD.m rfl ?_
     refine RD.q (.bool (!put12)) ?_
     refine RD.m rfl ?_
     rcases bool_two (put12) with hb21 | hb21
     ·rw [hb21]; try simp only [hb21, bb] at hL_16
      refine RD.q (.agg (TPrefix.c p1)) ?_
      iterate 2 refine RD.m rfl ?_
      refine RD.idxT (c := TEntry.c) (x := x13) rfl rfl rfl (Int.natCast_nonneg _) hx16 ?_
      refine RD.q (.rptr (TEntry.c x13)) ?_
      refine RD.q (.agg [.int .u32 x13.P.A, .int .i64 x13.P.N]) ?_
      generalize hc51 : F29_crossroadsref03_Less p1 x13.P = c51 at hL_16
      try dsimp only at hL_16
      refine RD.callp (r := .bool c51) rfl rfl rfl (f29_ok p1 x13.P _ hc51) rfl rfl ?_
      refine RD.q (.bool c51) ?_
      refine RD.done rfl ?_
      rcases bool_two (c51) with hb22 | hb22
      ·rw [hb22]; try simp only [hb22, bb] at hL_16
       refine WK.condF rfl ?_
       refine WK.skip ?_
       refine WK.regx mixed ?_
       iterate 3 refine GX.m rfl ?_
       refine GX.idxT (c := TEntry.c) (x := x13) rfl rfl rfl (Int.natCast_nonneg _) hx16 ?_
       refine GX.q (.agg (TEntry.c x13)) ?_
       refine GX.step (v' := .own 3 3 0 (([x13] : List TEntry)).length) (heap' := [(0, .box (TPrefix.c p1)), (1, .box [.int .u32 p1.A, .int .i64 p1.N, .int .i64 v2]), (2, .row 3 33 (out11.map TEntry.c)), (3, .row 3 33 (([x13] : List TEntry).map TEntry.c))]) (next' := 4) rfl rfl rfl rfl rfl rfl rfl ?_
       rcases bool_two (decide (out11.length < 1099511627776)) with hg23 | hg23
       ·simp only [hg23, bb] at hL_16
        try dsimp only at hL_16
        subst hL_16
        try dsimp only at hR
        cases hR
       simp only [hg23, bb] at hL_16
       have hg23_ := of_decide_eq_true hg23
       refine GX.appT (c := TEntry.c) (L := out11) (X := ([x13] : List TEntry)) (heap' := [(0, .box (TPrefix.c p1)), (1, .box [.int .u32 p1.A, .int .i64 p1.N, .int .i64 v2]), (3, .row 3 33 (([x13] : List TEntry).map TEntry.c)), (4, .row 3 33 ((out11 ++ ([x13] : List TEntry)).map TEntry.c))]) (next' := 5) rfl rfl rfl rfl (elems_own rfl) (by ((try simp only [List.length_append, List.length_cons, List.length_nil, List.length_map, decide_eq_true_eq, decide_eq_false_iff_not] at *) <;> omega)) (by ((try simp only [List.length_append, List.length_cons, List.length_nil, List.length_map, decide_eq_true_eq, decide_eq_false_iff_not] at *) <;> omega)) rfl rfl rfl rfl ?_
       refine GX.m rfl ?_
       refine GX.done ?_
       refine WK.nil (QF.normal (hK20 _ ?_))
       refine WK.regx mixed ?_
       refine GX.m rfl ?_
       refine GX.pure (v' := .int .i64 ((i13 + 1 : Nat) : Int)) rfl rfl rfl rfl (congrArg (PVal.int .i64) (wrap_up hlt16 hlen_16)) ?_
       refine GX.m rfl ?_
       refine GX.done ?_
       refine WK.nil (QF.normal ?_)
       exact hagain_16 _ (c21a.length - (i13 + 1)) ⟨[(4, .ptr 0 0), (8, .ro 3 (c21a.map TEntry.c)), (10, .ptr 1 0), (11, .own 2 3 0 (out11 ++ ([x13] : List TEntry)).length), (12, .bool false), (13, .int .i64 ((i13 + 1) : Int))], [(0, .box (TPrefix.c p1)), (1, .box [.int .u32 p1.A, .int .i64 p1.N, .int .i64 v2]), (2, .row 3 33 ((out11 ++ ([x13] : List TEntry)).map TEntry.c))], 3⟩ (by omega) (Conv.keep [0, 1, 4] [] [4, 8, 10, 11, 12, 13] rfl rfl (viewE_cons rfl rfl (viewE_cons rfl rfl (viewE_cons rfl rfl (viewE_cons rfl rfl (viewE_cons rfl rfl (viewE_cons rfl rfl viewE_nil)))))) rfl rfl) ⟨i13 + 1, false, (out11 ++ ([x13] : List TEntry)), (by omega), rfl, hL_16, rfl⟩
      ·rw [hb22]; try simp only [hb22, bb] at hL_16
       refine WK.condT rfl ?_
       refine WK.sr mixed ?_
       refine GX.m rfl ?_
       refine GX.q (.agg [.int .u32 p1.A, .int .i64 p1.N, .int .i64 v2]) ?_
       refine GX.step (v' := .own 3 3 0 (([(⟨p1, v2⟩ : TEntry)] : List TEntry)).length) (heap' := [(0, .box (TPrefix.c p1)), (1, .box [.int .u32 p1.A, .int .i64 p1.N, .int .i64 v2]), (2, .row 3 33 (out11.map TEntry.c)), (3, .row 3 33 (([(⟨p1, v2⟩ : TEntry)] : List TEntry).map TEntry.c))]) (next' := 4) rfl rfl rfl rfl rfl rfl rfl ?_
       rcases bool_two (decide (out11.length < 1099511627776)) with hg24 | hg24
       ·simp only [hg24, bb] at hL_16
        try dsimp only at hL_16
        subst hL_16
        try dsimp only at hR
        cases hR
       simp only [hg24, bb] at hL_16
       have hg24_ := of_decide_eq_true hg24
       refine GX.appT (c := TEntry.c) (L := out11) (X := ([(⟨p1, v2⟩ : TEntry)] : List TEntry)) (heap' := [(0, .box (TPrefix.c p1)), (1, .box [.int .u32 p1.A, .int .i64 p1.N, .int .i64 v2]), (3, .row 3 33 (([(⟨p1, v2⟩ : TEntry)] : List TEntry).map TEntry.c)), (4, .row 3 33 ((out11 ++ ([(⟨p1, v2⟩ : TEntry)] : List TEntry)).map TEntry.c))]) (next' := 5) rfl rfl rfl rfl (elems_own rfl) (by ((try simp only [List.length_append, List.length_cons, List.length_nil, List.length_map, decide_eq_true_eq, decide_eq_false_iff_not] at *) <;> omega)) (by ((try simp only [List.length_append, List.length_cons, List.length_nil, List.length_map, decide_eq_true_eq, decide_eq_false_iff_not] at *) <;> omega)) rfl rfl rfl rfl ?_
       refine GX.m rfl ?_
       refine GX.done ?_
       refine WK.regx mixed ?_
       refine GX.m rfl ?_
       refine GX.done ?_
       refine WK.regx mixed ?_
       iterate 3 refine GX.m rfl ?_
       refine GX.idxT (c := TEntry.c) (x := x13) rfl rfl rfl (Int.natCast_nonneg _) hx16 ?_
       refine GX.q (.agg (TEntry.c x13)) ?_
       refine GX.step (v' := .own 5 3 0 (([x13] : List TEntry)).length) (heap' := [(0, .box (TPrefix.c p1)), (1, .box [.int .u32 p1.A, .int .i64 p1.N, .int .i64 v2]), (3, .row 3 33 (([(⟨p1, v2⟩ : TEntry)] : List TEntry).map TEntry.c)), (4, .row 3 33 ((out11 ++ ([(⟨p1, v2⟩ : TEntry)] : List TEntry)).map TEntry.c)), (5, .row 3 33 (([x13] : List TEntry).map TEntry.c))]) (next' := 6) rfl rfl rfl rfl rfl rfl rfl ?_
       rcases bool_two (decide ((out11 ++ ([(⟨p1, v2⟩ : TEntry)] : List TEntry)).length < 1099511627776)) with hg25 | hg25
       ·simp only [hg25, bb] at hL_16
        try dsimp only at hL_16
        subst hL_16
        try dsimp only at hR
        cases hR
       simp only [hg25, bb] at hL_16
       have hg25_ := of_decide_eq_true hg25
       refine GX.appT (c := TEntry.c) (L := (out11 ++ ([(⟨p1, v2⟩ : TEntry)] : List TEntry))) (X := ([x13] : List TEntry)) (heap' := [(0, .box (TPrefix.c p1)), (1, .box [.int .u32 p1.A, .int .i64 p1.N, .int .i64 v2]), (3, .row 3 33 (([(⟨p1, v2⟩ : TEntry)] : List TEntry).map TEntry.c)), (5, .row 3 33 (([x13] : List TEntry).map TEntry.c)), (6, .row 3 33 (((out11 ++ ([(⟨p1, v2⟩ : TEntry)] : List TEntry)) ++ ([x13] : List TEntry)).map TEntry.c))]) (next' := 7) rfl rfl rfl rfl (elems_own rfl) (by ((try simp only [List.length_append, List.length_cons, List.length_nil, List.length_map, decide_eq_true_eq, decide_eq_false_iff_not] at *) <;> omega)) (by ((try simp only [List.length_append, List.length_cons, List.length_nil, List.length_map, decide_eq_true_eq, decide_eq_false_iff_not] at *) <;> omega)) rfl rfl rfl rfl ?_
       refine GX.m rfl ?_
       refine GX.done ?_
       refine WK.nil (QF.normal (hK20 _ ?_))
       refine WK.regx mixed ?_
       refine GX.m rfl ?_
       refine GX.pure (v' := .int .i64 ((i13 + 1 : Nat) : Int)) rfl rfl rfl rfl (congrArg (PVal.int .i64) (wrap_up hlt16 hlen_16)) ?_
       refine GX.m rfl ?_
       refine GX.done ?_
       refine WK.nil (QF.normal ?_)
       exact hagain_16 _ (c21a.length - (i13 + 1)) ⟨[(4, .ptr 0 0), (8, .ro 3 (c21a.map TEntry.c)), (10, .ptr 1 0), (11, .own 2 3 0 ((out11 ++ ([(⟨p1, v2⟩ : TEntry)] : List TEntry)) ++ ([x13] : List TEntry)).length), (12, .bool true), (13, .int .i64 ((i13 + 1) : Int))], [(0, .box (TPrefix.c p1)), (1, .box [.int .u32 p1.A, .int .i64 p1.N, .int .i64 v2]), (2, .row 3 33 (((out11 ++ ([(⟨p1, v2⟩ : TEntry)] : List TEntry)) ++ ([x13] : List TEntry)).map TEntry.c))], 3⟩ (by omega) (Conv.keep [0, 1, 6] [] [4, 8, 10, 11, 12, 13] rfl rfl (viewE_cons rfl rfl (viewE_cons rfl rfl (viewE_cons rfl rfl (viewE_cons rfl rfl (viewE_cons rfl rfl (viewE_cons rfl rfl viewE_nil)))))) rfl rfl) ⟨i13 + 1, true, ((out11 ++ ([(⟨p1, v2⟩ : TEntry)] : List TEntry)) ++ ([x13] : List TEntry)), (by omega), rfl, hL_16, rfl⟩
     ·rw [hb21]; try simp only [hb21, bb] at hL_16
      iterate 7 refine RD.skip rfl rfl ?_
      refine RD.q (.bool false) ?_
      refine RD.done rfl ?_
      refine WK.condF rfl ?_
      refine WK.skip ?_
      refine WK.regx mixed ?_
      iterate 3 refine GX.m rfl ?_
      refine GX.idxT (c := TEntry.c) (x := x13) rfl rfl rfl (Int.natCast_nonneg _) hx16 ?_
      refine GX.q (.agg (TEntry.c x13)) ?_
      refine GX.step (v' := .own 3 3 0 (([x13] : List TEntry)).length) (heap' := [(0, .box (TPrefix.c p1)), (1, .box [.int .u32 p1.A, .int .i64 p1.N, .int .i64 v2]), (2, .row 3 33 (out11.map TEntry.c)), (3, .row 3 33 (([x13] : List TEntry).map TEntry.c))]) (next' := 4) rfl rfl rfl rfl rfl rfl rfl ?_
      rcases bool_two (decide (out11.length < 1099511627776)) with hg26 | hg26
      ·simp only [hg26, bb] at hL_16
       try dsimp only at hL_16
       subst hL_16
       try dsimp only at hR
       cases hR
      simp only [hg26, bb] at hL_16
      have hg26_ := of_decide_eq_true hg26
      refine GX.appT (c := TEntry.c) (L := out11) (X := ([x13] : List TEntry)) (heap' := [(0, .box (TPrefix.c p1)), (1, .box [.int .u32 p1.A, .int .i64 p1.N, .int .i64 v2]), (3, .row 3 33 (([x13] : List TEntry).map TEntry.c)), (4, .row 3 33 ((out11 ++ ([x13] : List TEntry)).map TEntry.c))]) (next' := 5) rfl rfl rfl rfl (elems_own rfl) (by ((try simp only [List.length_append, List.length_cons, List.length_nil, List.length_map, decide_eq_true_eq, decide_eq_false_iff_not] at *) <;> omega)) (by ((try simp only [List.length_append, List.length_cons, List.length_nil, List.length_map, decide_eq_true_eq, decide_eq_false_iff_not] at *) <;> omega)) rfl rfl rfl rfl ?_
      refine GX.m rfl ?_
      refine GX.done ?_
      refine WK.nil (QF.normal (hK20 _ ?_))
      refine WK.regx mixed ?_
      refine GX.m rfl ?_
      refine GX.pure (v' := .int .i64 ((i13 + 1 : Nat) : Int)) rfl rfl rfl rfl (congrArg (PVal.int .i64) (wrap_up hlt16 hlen_16)) ?_
      refine GX.m rfl ?_
      refine GX.done ?_
      refine WK.nil (QF.normal ?_)
      exact hagain_16 _ (c21a.length - (i13 + 1)) ⟨[(4, .ptr 0 0), (8, .ro 3 (c21a.map TEntry.c)), (10, .ptr 1 0), (11, .own 2 3 0 (out11 ++ ([x13] : List TEntry)).length), (12, .bool true), (13, .int .i64 ((i13 + 1) : Int))], [(0, .box (TPrefix.c p1)), (1, .box [.int .u32 p1.A, .int .i64 p1.N, .int .i64 v2]), (2, .row 3 33 ((out11 ++ ([x13] : List TEntry)).map TEntry.c))], 3⟩ (by omega) (Conv.keep [0, 1, 4] [] [4, 8, 10, 11, 12, 13] rfl rfl (viewE_cons rfl rfl (viewE_cons rfl rfl (viewE_cons rfl rfl (viewE_cons rfl rfl (viewE_cons rfl rfl (viewE_cons rfl rfl viewE_nil)))))) rfl rfl) ⟨i13 + 1, true, (out11 ++ ([x13] : List TEntry)), (by omega), rfl, hL_16, rfl⟩
   ·rw [hb3]; try simp only [hb3, bb] at hR
    refine WK.condT rfl ?_
    refine WK.sr mixed ?_
    iterate 3 refine GX.m rfl ?_
    refine GX.done ?_
    refine WK.ret ?_
    obtain rfl := Option.some.inj hR
    exact RetQ.fr [] (.inr rfl) rfl rfl rfl rfl
  ·rw [hb2]; first | replace hR := cond_t hb2 hR | (try simp only [hb2, bb] at hR)
   iterate 3 refine GX.skip rfl rfl ?_
   refine GX.q (.bool false) ?_
   refine GX.done ?_
   refine WK.condF rfl ?_
   refine WK.skip ?_
   refine WK.sr mixed ?_
   refine GX.q (.agg (TPrefix.c p1)) ?_
   refine GX.m rfl ?_
   refine GX.q (.agg [.int .u32 p1.A, .int .i64 p1.N, .int .i64 v2]) ?_
   refine GX.step (v' := .ptr 1 0) (heap' := [(0, .box (TPrefix.c p1)), (1, .box [.int .u32 0, .int .i64 0, .int .i64 0])]) (next' := 2) rfl rfl rfl rfl rfl rfl rfl ?_
   refine GX.step0 (heap' := [(0, .box (TPrefix.c p1)), (1, .box [.int .u32 p1.A, .int .i64 p1.N, .int .i64 v2])]) (next' := 2) rfl rfl rfl rfl rfl ?_
   refine GX.done ?_
   refine WK.sr mixed ?_
   refine GX.step (v' := .own 2 3 0 (([] : List TEntry)).length) (heap' := [(0, .box (TPrefix.c p1)), (1, .box [.int .u32 p1.A, .int .i64 p1.N, .int .i64 v2]), (2, .row 3 33 (([] : List TEntry).map TEntry.c))]) (next' := 3) rfl rfl rfl rfl rfl rfl rfl ?_
   refine GX.m rfl ?_
   refine GX.done ?_
   refine WK.sr mixed ?_
   refine GX.m rfl ?_
   refine GX.done ?_
   refine WK.seq ?_
   refine WK.sr mixed ?_
   refine GX.m rfl ?_
   refine GX.done ?_
   refine WK.len (t := 22) rfl (by simp) (fun hlen_39 => ?_)
   rw [List.length_map] at hlen_39
   generalize hZ_39 : F18_crossroadsref06_Set_l1 p1 v2 false ([] : List TEntry) c21a = Z_39 at hR
   refine WK.forK (fun k s => ∃ (i13 : Nat) (put12 : Bool) (out11 : List TEntry), i13 ≤ c21a.length ∧ k = c21a.length - i13 ∧ F18_crossroadsref06_Set_l1 p1 v2 put12 out11 (c21a.drop i13) = Z_39 ∧ s = ⟨[(4, .ptr 0 0), (8, .ro 3 (c21a.map TEntry.c)), (10, .ptr 1 0), (11, .own 2 3 0 out11.length), (12, .bool put12), (13, .int .i64 (i13 : Int))], [(0, .box (TPrefix.c p1)), (1, .box [.int .u32 p1.A, .int .i64 p1.N, .int .i64 v2]), (2, .row 3 33 (out11.map TEntry.c))], 3⟩) c21a.length ⟨⟨[(4, .ptr 0 0), (8, .ro 3 (c21a.map TEntry.c)), (10, .ptr 1 0), (11, .own 2 3 0 ([] : List TEntry).length), (12, .bool false), (13, .int .i64 (0 : Int))], [(0, .box (TPrefix.c p1)), (1, .box [.int .u32 p1.A, .int .i64 p1.N, .int .i64 v2]), (2, .row 3 33 (([] : List TEntry).map TEntry.c))], 3⟩, Conv.keep [0, 1, 2] [] [4, 8, 10, 11, 12, 13] rfl rfl (viewE_cons rfl rfl (viewE_cons rfl rfl (viewE_cons rfl rfl (viewE_cons rfl rfl (viewE_cons rfl rfl (viewE_cons rfl rfl viewE_nil)))))) rfl rfl, 0, false, ([] : List TEntry), (by omega), rfl, hZ_39, rfl⟩ ?_
   rintro _ _ ⟨i13, put12, out11, hi_39, rfl, hL_39, rfl⟩ again_39 out_39 Q_39 hagain_39 hout_39 hQ_39
   refine WK.seq ?_
   refine WK.sr mixed ?_
   iterate 2 refine GX.m rfl ?_
   refine GX.pure (v' := .int .i64 (c21a.length : Int)) rfl rfl rfl rfl (len_map _ _) ?_
   refine GX.q (.bool (decide ((i13 : Int) < (c21a.length : Int)))) ?_
   refine GX.done ?_
   rcases bool_two (decide ((i13 : Int) < (c21a.length : Int))) with hb40 | hb40
   ·rw [hb40]
    rw [drop_end hb40, F18_crossroadsref06_Set_l1] at hL_39
    refine WK.condF rfl ?_
    refine WK.exit ?_
    refine QF.exit (hout_39 _ ?_)
    subst hL_39
    try dsimp only [cond_true, cond_false] at hR
    refine WK.seq ?_
    refine WK.sr mixed ?_
    refine GX.m rfl ?_
    refine GX.q (.bool (!put12)) ?_
    refine GX.done ?_
    rcases bool_two (put12) with hb41 | hb41
    ·rw [hb41]; first | replace hR := cond_f hb41 hR | (try simp only [hb41, bb] at hR)
     refine WK.condT rfl ?_
     refine WK.regx mixed ?_
     refine GX.m rfl ?_
     refine GX.q (.agg [.int .u32 p1.A, .int .i64 p1.N, .int .i64 v2]) ?_
     refine GX.step (v' := .own 3 3 0 (([(⟨p1, v2⟩ : TEntry)] : List TEntry)).length) (heap' := [(0, .box (TPrefix.c p1)), (1, .box [.int .u32 p1.A, .int .i64 p1.N, .int .i64 v2]), (2, .row 3 33 (out11.map TEntry.c)), (3, .row 3 33 (([(⟨p1, v2⟩ : TEntry)] : List TEntry).map TEntry.c))]) (next' := 4) rfl rfl rfl rfl rfl rfl rfl ?_
     rcases bool_two (decide (out11.length < 1099511627776)) with hg42 | hg42
     ·simp only [hg42, bb] at hR
      try dsimp only at hR
      cases hR
     simp only [hg42, bb] at hR
     have hg42_ := of_decide_eq_true hg42
     refine GX.appT (c := TEntry.c) (L := out11) (X := ([(⟨p1, v2⟩ : TEntry)] : List TEntry)) (heap' := [(0, .box (TPrefix.c p1)), (1, .box [.int .u32 p1.A, .int .i64 p1.N, .int .i64 v2]), (3, .row 3 33 (([(⟨p1, v2⟩ : TEntry)] : List TEntry).map TEntry.c)), (4, .row 3 33 ((out11 ++ ([(⟨p1, v2⟩ : TEntry)] : List TEntry)).map TEntry.c))]) (next' := 5) rfl rfl rfl rfl (elems_own rfl) (by ((try simp only [List.length_append, List.length_cons, List.length_nil, List.length_map, decide_eq_true_eq, decide_eq_false_iff_not] at *) <;> omega)) (by ((try simp only [List.length_append, List.length_cons, List.length_nil, List.length_map, decide_eq_true_eq, decide_eq_false_iff_not] at *) <;> omega)) rfl rfl rfl rfl ?_
     refine GX.m rfl ?_
     refine GX.done ?_
     refine WK.sr mixed ?_
     iterate 3 refine GX.m rfl ?_
     refine GX.done ?_
     refine WK.ret ?_
     obtain rfl := Option.some.inj hR
     exact RetQ.fr [4] (.inr rfl) rfl rfl (viewGo_cons (view_rowT rfl rfl) (viewGo_cons rfl viewGo_nil)) rfl
    ·rw [hb41]; first | replace hR := cond_t hb41 hR | (try simp only [hb41, bb] at hR)
     refine WK.condF rfl ?_
     refine WK.skip ?_
     refine WK.sr mixed ?_
     iterate 3 refine GX.m rfl ?_
     refine GX.done ?_
     refine WK.ret ?_
     obtain rfl := Option.some.inj hR
     exact RetQ.fr [2] (.inr rfl) rfl rfl (viewGo_cons (view_rowT rfl rfl) (viewGo_cons rfl viewGo_nil)) rfl
   ·rw [hb40]
    obtain ⟨x13, hx39, hd39, hlt39⟩ := drop_more hb40
    rw [hd39, F18_crossroadsref06_Set_l1] at hL_39
    refine WK.condT rfl ?_
    refine WK.skip ?_
    refine WK.seq ?_
    refine WK.blockK (fun _ hK43 => ?_)
    iterate 2 refine WK.seq ?_
    refine WK.drawn mixed ?_
    refine RD.m rfl ?_
    refine RD.q (.bool (!put12)) ?_
    refine RD.m rfl ?_
    rcases bool_two (put12) with hb44 | hb44
    ·rw [hb44]; try simp only [hb44, bb] at hL_39
     refine RD.q (.agg (TPrefix.c p1)) ?_
     iterate 2 refine RD.m rfl ?_
     refine RD.idxT (c := TEntry.c) (x := x13) rfl rfl rfl (Int.natCast_nonneg _) hx39 ?_
     refine RD.q (.rptr (TEntry.c x13)) ?_
     refine RD.q (.agg [.int .u32 x13.P.A, .int .i64 x13.P.N]) ?_
     generalize hc51 : F29_crossroadsref03_Less p1 x13.P = c51 at hL_39
     try dsimp only at hL_39
     refine RD.callp (r := .bool c51) rfl rfl rfl (f29_ok p1 x13.P _ hc51) rfl rfl ?_
     refine RD.q (.bool c51) ?_
     refine RD.done rfl ?_
     rcases bool_two (c51) with hb45 | hb45
     ·rw [hb45]; try simp only [hb45, bb] at hL_39
      refine WK.condF rfl ?_
      refine WK.skip ?_
      refine WK.regx mixed ?_
      iterate 3 refine GX.m rfl ?_
      refine GX.idxT (c := TEntry.c) (x := x13) rfl rfl rfl (Int.natCast_nonneg _) hx39 ?_
      refine GX.q (.agg (TEntry.c x13)) ?_
      refine GX.step (v' := .own 3 3 0 (([x13] : List TEntry)).length) (heap' := [(0, .box (TPrefix.c p1)), (1, .box [.int .u32 p1.A, .int .i64 p1.N, .int .i64 v2]), (2, .row 3 33 (out11.map TEntry.c)), (3, .row 3 33 (([x13] : List TEntry).map TEntry.c))]) (next' := 4) rfl rfl rfl rfl rfl rfl rfl ?_
      rcases bool_two (decide (out11.length < 1099511627776)) with hg46 | hg46
      ·simp only [hg46, bb] at hL_39
       try dsimp only at hL_39
       subst hL_39
       try dsimp only at hR
       cases hR
      simp only [hg46, bb] at hL_39
      have hg46_ := of_decide_eq_true hg46
      refine GX.appT (c := TEntry.c) (L := out11) (X := ([x13] : List TEntry)) (heap' := [(0, .box (TPrefix.c p1)), (1, .box [.int .u32 p1.A, .int .i64 p1.N, .int .i64 v2]), (3, .row 3 33 (([x13] : List TEntry).map TEntry.c)), (4, .row 3 33 ((out11 ++ ([x13] : List TEntry)).map TEntry.c))]) (next' := 5) rfl rfl rfl rfl (elems_own rfl) (by ((try simp only [List.length_append, List.length_cons, List.length_nil, List.length_map, decide_eq_true_eq, decide_eq_false_iff_not] at *) <;> omega)) (by ((try simp only [List.length_append, List.length_cons, List.length_nil, List.length_map, decide_eq_true_eq, decide_eq_false_iff_not] at *) <;> omega)) rfl rfl rfl rfl ?_
      refine GX.m rfl ?_
      refine GX.done ?_
      refine WK.nil (QF.normal (hK43 _ ?_))
      refine WK.regx mixed ?_
      refine GX.m rfl ?_
      refine GX.pure (v' := .int .i64 ((i13 + 1 : Nat) : Int)) rfl rfl rfl rfl (congrArg (PVal.int .i64) (wrap_up hlt39 hlen_39)) ?_
      refine GX.m rfl ?_
      refine GX.done ?_
      refine WK.nil (QF.normal ?_)
      exact hagain_39 _ (c21a.length - (i13 + 1)) ⟨[(4, .ptr 0 0), (8, .ro 3 (c21a.map TEntry.c)), (10, .ptr 1 0), (11, .own 2 3 0 (out11 ++ ([x13] : List TEntry)).length), (12, .bool false), (13, .int .i64 ((i13 + 1) : Int))], [(0, .box (TPrefix.c p1)), (1, .box [.int .u32 p1.A, .int .i64 p1.N, .int .i64 v2]), (2, .row 3 33 ((out11 ++ ([x13] : List TEntry)).map TEntry.c))], 3⟩ (by omega) (Conv.keep [0, 1, 4] [] [4, 8, 10, 11, 12, 13] rfl rfl (viewE_cons rfl rfl (viewE_cons rfl rfl (viewE_cons rfl rfl (viewE_cons rfl rfl (viewE_cons rfl rfl (viewE_cons rfl rfl viewE_nil)))))) rfl rfl) ⟨i13 + 1, false, (out11 ++ ([x13] : List TEntry)), (by omega), rfl, hL_39, rfl⟩
     ·rw [hb45]; try simp only [hb45, bb] at hL_39
      refine WK.condT rfl ?_
      refine WK.sr mixed ?_
      refine GX.m rfl ?_
      refine GX.q (.agg [.int .u32 p1.A, .int .i64 p1.N, .int .i64 v2]) ?_
      refine GX.step (v' := .own 3 3 0 (([(⟨p1, v2⟩ : TEntry)] : List TEntry)).length) (heap' := [(0, .box (TPrefix.c p1)), (1, .box [.int .u32 p1.A, .int .i64 p1.N, .int .i64 v2]), (2, .row 3 33 (out11.map TEntry.c)), (3, .row 3 33 (([(⟨p1, v2⟩ : TEntry)] : List TEntry).map TEntry.c))]) (next' := 4) rfl rfl rfl rfl rfl rfl rfl ?_
      rcases bool_two (decide (out11.length < 1099511627776)) with hg47 | hg47
      ·simp only [hg47, bb] at hL_39
       try dsimp only at hL_39
       subst hL_39
       try dsimp only at hR
       cases hR
      simp only [hg47, bb] at hL_39
      have hg47_ := of_decide_eq_true hg47
      refine GX.appT (c := TEntry.c) (L := out11) (X := ([(⟨p1, v2⟩ : TEntry)] : List TEntry)) (heap' := [(0, .box (TPrefix.c p1)), (1, .box [.int .u32 p1.A, .int .i64 p1.N, .int .i64 v2]), (3, .row 3 33 (([(⟨p1, v2⟩ : TEntry)] : List TEntry).map TEntry.c)), (4, .row 3 33 ((out11 ++ ([(⟨p1, v2⟩ : TEntry)] : List TEntry)).map TEntry.c))]) (next' := 5) rfl rfl rfl rfl (elems_own rfl) (by ((try simp only [List.length_append, List.length_cons, List.length_nil, List.length_map, decide_eq_true_eq, decide_eq_false_iff_not] at *) <;> omega)) (by ((try simp only [List.length_append, List.length_cons, List.length_nil, List.length_map, decide_eq_true_eq, decide_eq_false_iff_not] at *) <;> omega)) rfl rfl rfl rfl ?_
      refine GX.m rfl ?_
      refine GX.done ?_
      refine WK.regx mixed ?_
      refine GX.m rfl ?_
      refine GX.done ?_
      refine WK.regx mixed ?_
      iterate 3 refine GX.m rfl ?_
      refine GX.idxT (c := TEntry.c) (x := x13) rfl rfl rfl (Int.natCast_nonneg _) hx39 ?_
      refine GX.q (.agg (TEntry.c x13)) ?_
      refine GX.step (v' := .own 5 3 0 (([x13] : List TEntry)).length) (heap' := [(0, .box (TPrefix.c p1)), (1, .box [.int .u32 p1.A, .int .i64 p1.N, .int .i64 v2]), (3, .row 3 33 (([(⟨p1, v2⟩ : TEntry)] : List TEntry).map TEntry.c)), (4, .row 3 33 ((out11 ++ ([(⟨p1, v2⟩ : TEntry)] : List TEntry)).map TEntry.c)), (5, .row 3 33 (([x13] : List TEntry).map TEntry.c))]) (next' := 6) rfl rfl rfl rfl rfl rfl rfl ?_
      rcases bool_two (decide ((out11 ++ ([(⟨p1, v2⟩ : TEntry)] : List TEntry)).length < 1099511627776)) with hg48 | hg48
      ·simp only [hg48, bb] at hL_39
       try dsimp only at hL_39
       subst hL_39
       try dsimp only at hR
       cases hR
      simp only [hg48, bb] at hL_39
      have hg48_ := of_decide_eq_true hg48
      refine GX.appT (c := TEntry.c) (L := (out11 ++ ([(⟨p1, v2⟩ : TEntry)] : List TEntry))) (X := ([x13] : List TEntry)) (heap' := [(0, .box (TPrefix.c p1)), (1, .box [.int .u32 p1.A, .int .i64 p1.N, .int .i64 v2]), (3, .row 3 33 (([(⟨p1, v2⟩ : TEntry)] : List TEntry).map TEntry.c)), (5, .row 3 33 (([x13] : List TEntry).map TEntry.c)), (6, .row 3 33 (((out11 ++ ([(⟨p1, v2⟩ : TEntry)] : List TEntry)) ++ ([x13] : List TEntry)).map TEntry.c))]) (next' := 7) rfl rfl rfl rfl (elems_own rfl) (by ((try simp only [List.length_append, List.length_cons, List.length_nil, List.length_map, decide_eq_true_eq, decide_eq_false_iff_not] at *) <;> omega)) (by ((try simp only [List.length_append, List.length_cons, List.length_nil, List.length_map, decide_eq_true_eq, decide_eq_false_iff_not] at *) <;> omega)) rfl rfl rfl rfl ?_
      refine GX.m rfl ?_
      refine GX.done ?_
      refine WK.nil (QF.normal (hK43 _ ?_))
      refine WK.regx mixed ?_
      refine GX.m rfl ?_
      refine GX.pure (v' := .int .i64 ((i13 + 1 : Nat) : Int)) rfl rfl rfl rfl (congrArg (PVal.int .i64) (wrap_up hlt39 hlen_39)) ?_
      refine GX.m rfl ?_
      refine GX.done ?_
      refine WK.nil (QF.normal ?_)
      exact hagain_39 _ (c21a.length - (i13 + 1)) ⟨[(4, .ptr 0 0), (8, .ro 3 (c21a.map TEntry.c)), (10, .ptr 1 0), (11, .own 2 3 0 ((out11 ++ ([(⟨p1, v2⟩ : TEntry)] : List TEntry)) ++ ([x13] : List TEntry)).length), (12, .bool true), (13, .int .i64 ((i13 + 1) : Int))], [(0, .box (TPrefix.c p1)), (1, .box [.int .u32 p1.A, .int .i64 p1.N, .int .i64 v2]), (2, .row 3 33 (((out11 ++ ([(⟨p1, v2⟩ : TEntry)] : List TEntry)) ++ ([x13] : List TEntry)).map TEntry.c))], 3⟩ (by omega) (Conv.keep [0, 1, 6] [] [4, 8, 10, 11, 12, 13] rfl rfl (viewE_cons rfl rfl (viewE_cons rfl rfl (viewE_cons rfl rfl (viewE_cons rfl rfl (viewE_cons rfl rfl (viewE_cons rfl rfl viewE_nil)))))) rfl rfl) ⟨i13 + 1, true, ((out11 ++ ([(⟨p1, v2⟩ : TEntry)] : List TEntry)) ++ ([x13] : List TEntry)), (by omega), rfl, hL_39, rfl⟩
    ·rw [hb44]; try simp only [hb44, bb] at hL_39
     iterate 7 refine RD.skip rfl rfl ?_
     refine RD.q (.bool false) ?_
     refine RD.done rfl ?_
     refine WK.condF rfl ?_
     refine WK.skip ?_
     refine WK.regx mixed ?_
     iterate 3 refine GX.m rfl ?_
     refine GX.idxT (c := TEntry.c) (x := x13) rfl rfl rfl (Int.natCast_nonneg _) hx39 ?_
     refine GX.q (.agg (TEntry.c x13)) ?_
     refine GX.step (v' := .own 3 3 0 (([x13] : List TEntry)).length) (heap' := [(0, .box (TPrefix.c p1)), (1, .box [.int .u32 p1.A, .int .i64 p1.N, .int .i64 v2]), (2, .row 3 33 (out11.map TEntry.c)), (3, .row 3 33 (([x13] : List TEntry).map TEntry.c))]) (next' := 4) rfl rfl rfl rfl rfl rfl rfl ?_
     rcases bool_two (decide (out11.length < 1099511627776)) with hg49 | hg49
     ·simp only [hg49, bb] at hL_39
      try dsimp only at hL_39
      subst hL_39
      try dsimp only at hR
      cases hR
     simp only [hg49, bb] at hL_39
     have hg49_ := of_decide_eq_true hg49
     refine GX.appT (c := TEntry.c) (L := out11) (X := ([x13] : List TEntry)) (heap' := [(0, .box (TPrefix.c p1)), (1, .box [.int .u32 p1.A, .int .i64 p1.N, .int .i64 v2]), (3, .row 3 33 (([x13] : List TEntry).map TEntry.c)), (4, .row 3 33 ((out11 ++ ([x13] : List TEntry)).map TEntry.c))]) (next' := 5) rfl rfl rfl rfl (elems_own rfl) (by ((try simp only [List.length_append, List.length_cons, List.length_nil, List.length_map, decide_eq_true_eq, decide_eq_false_iff_not] at *) <;> omega)) (by ((try simp only [List.length_append, List.length_cons, List.length_nil, List.length_map, decide_eq_true_eq, decide_eq_false_iff_not] at *) <;> omega)) rfl rfl rfl rfl ?_
     refine GX.m rfl ?_
     refine GX.done ?_
     refine WK.nil (QF.normal (hK43 _ ?_))
     refine WK.regx mixed ?_
     refine GX.m rfl ?_
     refine GX.pure (v' := .int .i64 ((i13 + 1 : Nat) : Int)) rfl rfl rfl rfl (congrArg (PVal.int .i64) (wrap_up hlt39 hlen_39)) ?_
     refine GX.m rfl ?_
     refine GX.done ?_
     refine WK.nil (QF.normal ?_)
     exact hagain_39 _ (c21a.length - (i13 + 1)) ⟨[(4, .ptr 0 0), (8, .ro 3 (c21a.map TEntry.c)), (10, .ptr 1 0), (11, .own 2 3 0 (out11 ++ ([x13] : List TEntry)).length), (12, .bool true), (13, .int .i64 ((i13 + 1) : Int))], [(0, .box (TPrefix.c p1)), (1, .box [.int .u32 p1.A, .int .i64 p1.N, .int .i64 v2]), (2, .row 3 33 ((out11 ++ ([x13] : List TEntry)).map TEntry.c))], 3⟩ (by omega) (Conv.keep [0, 1, 4] [] [4, 8, 10, 11, 12, 13] rfl rfl (viewE_cons rfl rfl (viewE_cons rfl rfl (viewE_cons rfl rfl (viewE_cons rfl rfl (viewE_cons rfl rfl (viewE_cons rfl rfl viewE_nil)))))) rfl rfl) ⟨i13 + 1, true, (out11 ++ ([x13] : List TEntry)), (by omega), rfl, hL_39, rfl⟩

theorem f27_ok (p0 : TPrefix) (a1 : Int) (R : Bool) (hR : F27_crossroadsref03_Has p0 a1 = R) : FnOk Try.prog 27 [.agg (TPrefix.c p0), .int .u32 a1] [] 0 (.bool R) [] 0 := by
 refine FnOk.wk i27 rfl rfl ?_
 unfold F27_crossroadsref03_Has at hR
 change WK _ _ _ [ac27] _ ⟨[(0, .agg (TPrefix.c p0)), (1, .int .u32 a1)], [], 0⟩
 unfold ac27
 refine WK.sr mixed ?_
 refine GX.step (v' := .ptr 0 0) (heap' := [(0, .box (TPrefix.c p0))]) (next' := 1) rfl rfl rfl rfl rfl rfl rfl ?_
 refine GX.m rfl ?_
 refine GX.done ?_
 refine WK.seq ?_
 refine WK.sr mixed ?_
 refine GX.q (.agg (TPrefix.c p0)) ?_
 generalize hc7 : F28_crossroadsref03_May p0 = c7 at hR
 try dsimp only at hR
 refine GX.callp (r := .bool c7) rfl rfl rfl (f28_ok p0 _ hc7) rfl rfl ?_
 refine GX.q (.bool (!c7)) ?_
 refine GX.done ?_
 rcases bool_two (c7) with hb1 | hb1
 ·rw [hb1]; try simp only [hb1, bb] at hR
  refine WK.condT rfl ?_
  refine WK.sr mixed ?_
  refine GX.m rfl ?_
  refine GX.done ?_
  refine WK.ret ?_
  subst hR
  exact RetQ.fr [] (.inr rfl) rfl rfl rfl rfl
 ·rw [hb1]; try simp only [hb1, bb] at hR
  refine WK.condF rfl ?_
  refine WK.skip ?_
  refine WK.seq ?_
  refine WK.sr mixed ?_
  refine GX.m rfl ?_
  refine GX.done ?_
  generalize hZ_2 : F27_crossroadsref03_Has_l1 p0 a1 (fuelUp 0 p0.N) 0 = Z_2 at hR
  refine WK.forK (fun k s => ∃ (i5 : Int), fuelUp i5 p0.N ≤ k ∧ 0 ≤ i5 ∧ F27_crossroadsref03_Has_l1 p0 a1 k i5 = Z_2 ∧ s = ⟨[(1, .int .u32 a1), (2, .ptr 0 0), (5, .int .i64 i5)], [(0, .box (TPrefix.c p0))], 1⟩) (fuelUp 0 p0.N) ⟨⟨[(1, .int .u32 a1), (2, .ptr 0 0), (5, .int .i64 0)], [(0, .box (TPrefix.c p0))], 1⟩, Conv.keep [0] [] [1, 2, 5] rfl rfl (viewE_cons rfl rfl (viewE_cons rfl rfl (viewE_cons rfl rfl viewE_nil))) rfl rfl, 0, Nat.le_refl _, (by omega), hZ_2, rfl⟩ ?_
  rintro k2 _ ⟨i5, hfu2, hinv2_c0, hL_2, rfl⟩ again_2 out_2 Q_2 hagain_2 hout_2 hQ_2
  refine WK.seq ?_
  refine WK.sr mixed ?_
  refine GX.m rfl ?_
  refine GX.q (.ptr 0 1) ?_
  refine GX.q (.int .i64 p0.N) ?_
  refine GX.q (.bool (decide (i5 < p0.N))) ?_
  refine GX.done ?_
  rcases bool_two (decide (i5 < p0.N)) with hb3 | hb3
  ·rw [hb3]
   unfold F27_crossroadsref03_Has_l1 at hL_2; rw [hb3, cond_false] at hL_2
   refine WK.condF rfl ?_
   refine WK.exit ?_
   refine QF.exit (hout_2 _ ?_)
   subst hL_2
   try dsimp only [cond_true, cond_false] at hR
   refine WK.sr mixed ?_
   refine GX.m rfl ?_
   refine GX.done ?_
   refine WK.ret ?_
   subst hR
   exact RetQ.fr [] (.inr rfl) rfl rfl rfl rfl
  ·rw [hb3]
   obtain ⟨f2, rfl⟩ := fuel_pos hb3 hfu2
   unfold F27_crossroadsref03_Has_l1 at hL_2; rw [hb3, cond_true] at hL_2; dsimp only at hL_2
   refine WK.condT rfl ?_
   refine WK.skip ?_
   refine WK.seq ?_
   refine WK.blockK (fun _ hK4 => ?_)
   refine WK.sr mixed ?_
   refine GX.q (.ptr 0 0) ?_
   refine GX.q (.int .u32 p0.A) ?_
   refine GX.m rfl ?_
   generalize hc18 : F38_crossroadsref03_Bit p0.A i5 = c18 at hL_2
   try dsimp only at hL_2
   refine GX.callp (r := .int .i64 c18) rfl rfl rfl (f38_ok p0.A i5 _ hc18) rfl rfl ?_
   iterate 2 refine GX.m rfl ?_
   generalize hc21 : F38_crossroadsref03_Bit a1 i5 = c21 at hL_2
   try dsimp only at hL_2
   refine GX.callp (r := .int .i64 c21) rfl rfl rfl (f38_ok a1 i5 _ hc21) rfl rfl ?_
   refine GX.q (.bool (!decide (c18 = c21))) ?_
   refine GX.done ?_
   rcases bool_two (decide (c18 = c21)) with hb5 | hb5
   ·rw [hb5]; try simp only [hb5, bb] at hL_2
    refine WK.condT rfl ?_
    refine WK.sr mixed ?_
    refine GX.m rfl ?_
    refine GX.done ?_
    refine WK.ret ?_
    refine QF.ret ?_
    refine QF.ret (hQ_2 _ _ ?_)
    subst hL_2
    subst hR
    exact RetQ.fr [] (.inr rfl) rfl rfl rfl rfl
   ·rw [hb5]; try simp only [hb5, bb] at hL_2
    refine WK.condF rfl ?_
    refine WK.skip ?_
    refine WK.nil (QF.normal (hK4 _ ?_))
    refine WK.regx mixed ?_
    refine GX.m rfl ?_
    refine GX.q (.int .i64 (IntKind.i64.wrap (i5 + 1))) ?_
    refine GX.m rfl ?_
    refine GX.done ?_
    refine WK.nil (QF.normal ?_)
    exact hagain_2 _ f2 ⟨[(1, .int .u32 a1), (2, .ptr 0 0), (5, .int .i64 (IntKind.i64.wrap (i5 + 1)))], [(0, .box (TPrefix.c p0))], 1⟩ (Nat.lt_succ_self _) (Conv.keep [0] [] [1, 2, 5] rfl rfl (viewE_cons rfl rfl (viewE_cons rfl rfl (viewE_cons rfl rfl viewE_nil))) rfl rfl) ⟨(IntKind.i64.wrap (i5 + 1)), fuel_up hb3 (by (have hlf := may03_len (by assumption) (by assumption); omega)) hfu2, (by (have hlf := may03_len (by assumption) (by assumption); (try simp only [decide_eq_true_eq, decide_eq_false_iff_not] at *); rw [wrap64_of (by omega) (by omega)]; omega)), hL_2, rfl⟩

theorem f19_ok (l0 : List TEntry) (a1 : Int) (R : TEntry × Bool) (hR : F19_crossroadsref06_Find l0 a1 = R) : FnOk Try.prog 19 [.ro 3 (l0.map TEntry.c), .int .u32 a1] [] 0 (.tup [.agg (TEntry.c R.1), .bool R.2]) [] 0 := by
 refine FnOk.wk i19 rfl rfl ?_
 unfold F19_crossroadsref06_Find at hR
 change WK _ _ _ [ac19] _ ⟨[(0, .ro 3 (l0.map TEntry.c)), (1, .int .u32 a1)], [], 0⟩
 unfold ac19
 refine WK.sr mixed ?_
 refine GX.step (v' := .ptr 0 0) (heap' := [(0, .box [.int .u32 0, .int .i64 0, .int .i64 0])]) (next' := 1) rfl rfl rfl rfl rfl rfl rfl ?_
 refine GX.m rfl ?_
 refine GX.done ?_
 refine WK.sr mixed ?_
 refine GX.q (.agg [.int .u32 0, .int .i64 0, .int .i64 0]) ?_
 refine GX.step (v' := .ptr 1 0) (heap' := [(0, .box [.int .u32 0, .int .i64 0, .int .i64 0]), (1, .box [.int .u32 0, .int .i64 0, .int .i64 0])]) (next' := 2) rfl rfl rfl rfl rfl rfl rfl ?_
 refine GX.step0 (heap' := [(0, .box [.int .u32 0, .int .i64 0, .int .i64 0]), (1, .box [.int .u32 0, .int .i64 0, .int .i64 0])]) (next' := 2) rfl rfl rfl rfl rfl ?_
 refine GX.m rfl ?_
 refine GX.done ?_
 refine WK.seq ?_
 refine WK.sr mixed ?_
 refine GX.m rfl ?_
 refine GX.done ?_
 refine WK.len (t := 0) rfl (by simp) (fun hlen_5 => ?_)
 rw [List.length_map] at hlen_5
 generalize hZ_5 : F19_crossroadsref06_Find_l1 a1 false (⟨(⟨0, 0⟩ : TPrefix), 0⟩ : TEntry) l0 = Z_5 at hR
 refine WK.forK (fun k s => ∃ (i8 : Nat) (is7 : Bool) (best6 : TEntry), i8 ≤ l0.length ∧ k = l0.length - i8 ∧ F19_crossroadsref06_Find_l1 a1 is7 best6 (l0.drop i8) = Z_5 ∧ s = ⟨[(0, .ro 3 (l0.map TEntry.c)), (1, .int .u32 a1), (4, .ptr 0 0), (6, .ptr 1 0), (7, .bool is7), (8, .int .i64 (i8 : Int))], [(0, .box [.int .u32 0, .int .i64 0, .int .i64 0]), (1, .box (TEntry.c best6))], 2⟩) l0.length ⟨⟨[(0, .ro 3 (l0.map TEntry.c)), (1, .int .u32 a1), (4, .ptr 0 0), (6, .ptr 1 0), (7, .bool false), (8, .int .i64 (0 : Int))], [(0, .box [.int .u32 0, .int .i64 0, .int .i64 0]), (1, .box (TEntry.c (⟨(⟨0, 0⟩ : TPrefix), 0⟩ : TEntry)))], 2⟩, Conv.keep [0, 1] [] [0, 1, 4, 6, 7, 8] rfl rfl (viewE_cons rfl rfl (viewE_cons rfl rfl (viewE_cons rfl rfl (viewE_cons rfl rfl (viewE_cons rfl rfl (viewE_cons rfl rfl viewE_nil)))))) rfl rfl, 0, false, (⟨(⟨0, 0⟩ : TPrefix), 0⟩ : TEntry), (by omega), rfl, hZ_5, rfl⟩ ?_
 rintro _ _ ⟨i8, is7, best6, hi_5, rfl, hL_5, rfl⟩ again_5 out_5 Q_5 hagain_5 hout_5 hQ_5
 refine WK.seq ?_
 refine WK.sr mixed ?_
 iterate 2 refine GX.m rfl ?_
 refine GX.pure (v' := .int .i64 (l0.length : Int)) rfl rfl rfl rfl (len_map _ _) ?_
 refine GX.q (.bool (decide ((i8 : Int) < (l0.length : Int)))) ?_
 refine GX.done ?_
 rcases bool_two (decide ((i8 : Int) < (l0.length : Int))) with hb6 | hb6
 ·rw [hb6]
  rw [drop_end hb6, F19_crossroadsref06_Find_l1] at hL_5
  refine WK.condF rfl ?_
  refine WK.exit ?_
  refine QF.exit (hout_5 _ ?_)
  subst hL_5
  try dsimp only [cond_true, cond_false] at hR
  refine WK.sr mixed ?_
  refine GX.q (.agg (TEntry.c best6)) ?_
  refine GX.m rfl ?_
  refine GX.step0 (heap' := [(0, .box (TEntry.c best6)), (1, .box (TEntry.c best6))]) (next' := 2) rfl rfl rfl rfl rfl ?_
  refine GX.m rfl ?_
  refine GX.done ?_
  refine WK.ret ?_
  subst hR
  exact RetQ.fr [] (.inr rfl) rfl rfl rfl rfl
 ·rw [hb6]
  obtain ⟨x8, hx5, hd5, hlt5⟩ := drop_more hb6
  rw [hd5, F19_crossroadsref06_Find_l1] at hL_5
  refine WK.condT rfl ?_
  refine WK.skip ?_
  refine WK.seq ?_
  refine WK.blockK (fun _ hK7 => ?_)
  refine WK.seq ?_
  refine WK.drawn mixed ?_
  iterate 2 refine RD.m rfl ?_
  refine RD.idxT (c := TEntry.c) (x := x8) rfl rfl rfl (Int.natCast_nonneg _) hx5 ?_
  refine RD.q (.rptr (TEntry.c x8)) ?_
  refine RD.q (.agg [.int .u32 x8.P.A, .int .i64 x8.P.N]) ?_
  refine RD.m rfl ?_
  generalize hc22 : F27_crossroadsref03_Has x8.P a1 = c22 at hL_5
  try dsimp only at hL_5
  refine RD.callp (r := .bool c22) rfl rfl rfl (f27_ok x8.P a1 _ hc22) rfl rfl ?_
  refine RD.m rfl ?_
  rcases bool_two (c22) with hb8 | hb8
  ·rw [hb8]; try simp only [hb8, bb] at hL_5
   iterate 14 refine RD.skip rfl rfl ?_
   refine RD.q (.bool false) ?_
   refine RD.done rfl ?_
   refine WK.condF rfl ?_
   refine WK.skip ?_
   refine WK.nil (QF.normal (hK7 _ ?_))
   refine WK.regx mixed ?_
   refine GX.m rfl ?_
   refine GX.pure (v' := .int .i64 ((i8 + 1 : Nat) : Int)) rfl rfl rfl rfl (congrArg (PVal.int .i64) (wrap_up hlt5 hlen_5)) ?_
   refine GX.m rfl ?_
   refine GX.done ?_
   refine WK.nil (QF.normal ?_)
   exact hagain_5 _ (l0.length - (i8 + 1)) ⟨[(0, .ro 3 (l0.map TEntry.c)), (1, .int .u32 a1), (4, .ptr 0 0), (6, .ptr 1 0), (7, .bool is7), (8, .int .i64 ((i8 + 1) : Int))], [(0, .box [.int .u32 0, .int .i64 0, .int .i64 0]), (1, .box (TEntry.c best6))], 2⟩ (by omega) (Conv.keep [0, 1] [] [0, 1, 4, 6, 7, 8] rfl rfl (viewE_cons rfl rfl (viewE_cons rfl rfl (viewE_cons rfl rfl (viewE_cons rfl rfl (viewE_cons rfl rfl (viewE_cons rfl rfl viewE_nil)))))) rfl rfl) ⟨i8 + 1, is7, best6, (by omega), rfl, hL_5, rfl⟩
  ·rw [hb8]; try simp only [hb8, bb] at hL_5
   refine RD.m rfl ?_
   refine RD.q (.bool (!is7)) ?_
   refine RD.m rfl ?_
   rcases bool_two (is7) with hb9 | hb9
   ·rw [hb9]; try simp only [hb9, bb] at hL_5
    iterate 10 refine RD.skip rfl rfl ?_
    iterate 2 refine RD.q (.bool true) ?_
    refine RD.done rfl ?_
    refine WK.condT rfl ?_
    refine WK.sr mixed ?_
    iterate 2 refine GX.m rfl ?_
    refine GX.idxT (c := TEntry.c) (x := x8) rfl rfl rfl (Int.natCast_nonneg _) hx5 ?_
    refine GX.q (.agg (TEntry.c x8)) ?_
    refine GX.step0 (heap' := [(0, .box [.int .u32 0, .int .i64 0, .int .i64 0]), (1, .box (TEntry.c x8))]) (next' := 2) rfl rfl rfl rfl rfl ?_
    refine GX.done ?_
    refine WK.regx mixed ?_
    refine GX.m rfl ?_
    refine GX.done ?_
    refine WK.nil (QF.normal (hK7 _ ?_))
    refine WK.regx mixed ?_
    refine GX.m rfl ?_
    refine GX.pure (v' := .int .i64 ((i8 + 1 : Nat) : Int)) rfl rfl rfl rfl (congrArg (PVal.int .i64) (wrap_up hlt5 hlen_5)) ?_
    refine GX.m rfl ?_
    refine GX.done ?_
    refine WK.nil (QF.normal ?_)
    exact hagain_5 _ (l0.length - (i8 + 1)) ⟨[(0, .ro 3 (l0.map TEntry.c)), (1, .int .u32 a1), (4, .ptr 0 0), (6, .ptr 1 0), (7, .bool true), (8, .int .i64 ((i8 + 1) : Int))], [(0, .box [.int .u32 0, .int .i64 0, .int .i64 0]), (1, .box (TEntry.c x8))], 2⟩ (by omega) (Conv.keep [0, 1] [] [0, 1, 4, 6, 7, 8] rfl rfl (viewE_cons rfl rfl (viewE_cons rfl rfl (viewE_cons rfl rfl (viewE_cons rfl rfl (viewE_cons rfl rfl (viewE_cons rfl rfl viewE_nil)))))) rfl rfl) ⟨i8 + 1, true, x8, (by omega), rfl, hL_5, rfl⟩
   ·rw [hb9]; try simp only [hb9, bb] at hL_5
    iterate 2 refine RD.m rfl ?_
    refine RD.idxT (c := TEntry.c) (x := x8) rfl rfl rfl (Int.natCast_nonneg _) hx5 ?_
    refine RD.q (.rptr (TEntry.c x8)) ?_
    refine RD.q (.rptr [.int .i64 x8.P.N, .int .i64 x8.V]) ?_
    refine RD.q (.int .i64 x8.P.N) ?_
    refine RD.q (.ptr 1 0) ?_
    refine RD.q (.ptr 1 1) ?_
    refine RD.q (.int .i64 best6.P.N) ?_
    iterate 3 refine RD.q (.bool (decide (best6.P.N < x8.P.N))) ?_
    refine RD.done rfl ?_
    rcases bool_two (decide (best6.P.N < x8.P.N)) with hb10 | hb10
    ·rw [hb10]; try simp only [hb10, bb] at hL_5
     refine WK.condF rfl ?_
     refine WK.skip ?_
     refine WK.nil (QF.normal (hK7 _ ?_))
     refine WK.regx mixed ?_
     refine GX.m rfl ?_
     refine GX.pure (v' := .int .i64 ((i8 + 1 : Nat) : Int)) rfl rfl rfl rfl (congrArg (PVal.int .i64) (wrap_up hlt5 hlen_5)) ?_
     refine GX.m rfl ?_
     refine GX.done ?_
     refine WK.nil (QF.normal ?_)
     exact hagain_5 _ (l0.length - (i8 + 1)) ⟨[(0, .ro 3 (l0.map TEntry.c)), (1, .int .u32 a1), (4, .ptr 0 0), (6, .ptr 1 0), (7, .bool true), (8, .int .i64 ((i8 + 1) : Int))], [(0, .box [.int .u32 0, .int .i64 0, .int .i64 0]), (1, .box (TEntry.c best6))], 2⟩ (by omega) (Conv.keep [0, 1] [] [0, 1, 4, 6, 7, 8] rfl rfl (viewE_cons rfl rfl (viewE_cons rfl rfl (viewE_cons rfl rfl (viewE_cons rfl rfl (viewE_cons rfl rfl (viewE_cons rfl rfl viewE_nil)))))) rfl rfl) ⟨i8 + 1, true, best6, (by omega), rfl, hL_5, rfl⟩
    ·rw [hb10]; try simp only [hb10, bb] at hL_5
     refine WK.condT rfl ?_
     refine WK.sr mixed ?_
     iterate 2 refine GX.m rfl ?_
     refine GX.idxT (c := TEntry.c) (x := x8) rfl rfl rfl (Int.natCast_nonneg _) hx5 ?_
     refine GX.q (.agg (TEntry.c x8)) ?_
     refine GX.step0 (heap' := [(0, .box [.int .u32 0, .int .i64 0, .int .i64 0]), (1, .box (TEntry.c x8))]) (next' := 2) rfl rfl rfl rfl rfl ?_
     refine GX.done ?_
     refine WK.regx mixed ?_
     refine GX.m rfl ?_
     refine GX.done ?_
     refine WK.nil (QF.normal (hK7 _ ?_))
     refine WK.regx mixed ?_
     refine GX.m rfl ?_
     refine GX.pure (v' := .int .i64 ((i8 + 1 : Nat) : Int)) rfl rfl rfl rfl (congrArg (PVal.int .i64) (wrap_up hlt5 hlen_5)) ?_
     refine GX.m rfl ?_
     refine GX.done ?_
     refine WK.nil (QF.normal ?_)
     exact hagain_5 _ (l0.length - (i8 + 1)) ⟨[(0, .ro 3 (l0.map TEntry.c)), (1, .int .u32 a1), (4, .ptr 0 0), (6, .ptr 1 0), (7, .bool true), (8, .int .i64 ((i8 + 1) : Int))], [(0, .box [.int .u32 0, .int .i64 0, .int .i64 0]), (1, .box (TEntry.c x8))], 2⟩ (by omega) (Conv.keep [0, 1] [] [0, 1, 4, 6, 7, 8] rfl rfl (viewE_cons rfl rfl (viewE_cons rfl rfl (viewE_cons rfl rfl (viewE_cons rfl rfl (viewE_cons rfl rfl (viewE_cons rfl rfl viewE_nil)))))) rfl rfl) ⟨i8 + 1, true, x8, (by omega), rfl, hL_5, rfl⟩

theorem f35_ok (p0 : TPrefix) (q1 : TPrefix) (R : Bool) (hR : F35_crossroadsref03_Covers p0 q1 = R) : FnOk Try.prog 35 [.agg (TPrefix.c p0), .agg (TPrefix.c q1)] [] 0 (.bool R) [] 0 := by
 refine FnOk.wk i35 rfl rfl ?_
 unfold F35_crossroadsref03_Covers at hR
 change WK _ _ _ [ac35] _ ⟨[(0, .agg (TPrefix.c p0)), (1, .agg (TPrefix.c q1))], [], 0⟩
 unfold ac35
 refine WK.sr mixed ?_
 refine GX.step (v' := .ptr 0 0) (heap' := [(0, .box (TPrefix.c p0))]) (next' := 1) rfl rfl rfl rfl rfl rfl rfl ?_
 refine GX.step (v' := .ptr 1 0) (heap' := [(0, .box (TPrefix.c p0)), (1, .box (TPrefix.c q1))]) (next' := 2) rfl rfl rfl rfl rfl rfl rfl ?_
 refine GX.m rfl ?_
 refine GX.done ?_
 refine WK.sr mixed ?_
 refine GX.q (.agg (TPrefix.c p0)) ?_
 generalize hc6 : F28_crossroadsref03_May p0 = c6 at hR
 try dsimp only at hR
 refine GX.callp (r := .bool c6) rfl rfl rfl (f28_ok p0 _ hc6) rfl rfl ?_
 refine GX.m rfl ?_
 rcases bool_two (c6) with hb1 | hb1
 ·rw [hb1]; try simp only [hb1, bb] at hR
  iterate 2 refine GX.skip rfl rfl ?_
  refine GX.q (.bool false) ?_
  refine GX.m rfl ?_
  iterate 5 refine GX.skip rfl rfl ?_
  refine GX.q (.bool false) ?_
  refine GX.m rfl ?_
  iterate 4 refine GX.skip rfl rfl ?_
  refine GX.q (.bool false) ?_
  refine GX.m rfl ?_
  refine GX.done ?_
  refine WK.ret ?_
  subst hR
  exact RetQ.fr [] (.inr rfl) rfl rfl rfl rfl
 ·rw [hb1]; try simp only [hb1, bb] at hR
  refine GX.q (.agg (TPrefix.c q1)) ?_
  generalize hc9 : F28_crossroadsref03_May q1 = c9 at hR
  try dsimp only at hR
  refine GX.callp (r := .bool c9) rfl rfl rfl (f28_ok q1 _ hc9) rfl rfl ?_
  refine GX.q (.bool c9) ?_
  refine GX.m rfl ?_
  rcases bool_two (c9) with hb2 | hb2
  ·rw [hb2]; try simp only [hb2, bb] at hR
   iterate 5 refine GX.skip rfl rfl ?_
   refine GX.q (.bool false) ?_
   refine GX.m rfl ?_
   iterate 4 refine GX.skip rfl rfl ?_
   refine GX.q (.bool false) ?_
   refine GX.m rfl ?_
   refine GX.done ?_
   refine WK.ret ?_
   subst hR
   exact RetQ.fr [] (.inr rfl) rfl rfl rfl rfl
  ·rw [hb2]; try simp only [hb2, bb] at hR
   refine GX.q (.ptr 1 1) ?_
   refine GX.q (.int .i64 q1.N) ?_
   refine GX.q (.ptr 0 1) ?_
   refine GX.q (.int .i64 p0.N) ?_
   iterate 2 refine GX.q (.bool (decide (p0.N ≤ q1.N))) ?_
   refine GX.m rfl ?_
   rcases bool_two (decide (p0.N ≤ q1.N)) with hb3 | hb3
   ·rw [hb3]; try simp only [hb3, bb] at hR
    iterate 4 refine GX.skip rfl rfl ?_
    refine GX.q (.bool false) ?_
    refine GX.m rfl ?_
    refine GX.done ?_
    refine WK.ret ?_
    subst hR
    exact RetQ.fr [] (.inr rfl) rfl rfl rfl rfl
   ·rw [hb3]; try simp only [hb3, bb] at hR
    refine GX.q (.agg (TPrefix.c p0)) ?_
    refine GX.q (.ptr 1 0) ?_
    refine GX.q (.int .u32 q1.A) ?_
    generalize hc22 : F27_crossroadsref03_Has p0 q1.A = c22 at hR
    try dsimp only at hR
    refine GX.callp (r := .bool c22) rfl rfl rfl (f27_ok p0 q1.A _ hc22) rfl rfl ?_
    refine GX.q (.bool c22) ?_
    refine GX.m rfl ?_
    refine GX.done ?_
    refine WK.ret ?_
    subst hR
    exact RetQ.fr [] (.inr rfl) rfl rfl rfl rfl

theorem f21_ok (l0 : List TEntry) (p1 : TPrefix) (R : (List TEntry)) (hR : F21_crossroadsref06_Below l0 p1 = some R) : FnOk Try.prog 21 [.ro 3 (l0.map TEntry.c), .agg (TPrefix.c p1)] [] 0 (.ro 3 (R.map TEntry.c)) [] 0 := by
 refine FnOk.wk i21 rfl rfl ?_
 unfold F21_crossroadsref06_Below at hR
 try dsimp only at hR
 change WK _ _ _ [ac21] _ ⟨[(0, .ro 3 (l0.map TEntry.c)), (1, .agg (TPrefix.c p1))], [], 0⟩
 unfold ac21
 refine WK.sr mixed ?_
 refine GX.step (v' := .ptr 0 0) (heap' := [(0, .box (TPrefix.c p1))]) (next' := 1) rfl rfl rfl rfl rfl rfl rfl ?_
 refine GX.m rfl ?_
 refine GX.done ?_
 refine WK.sr mixed ?_
 refine GX.step (v' := .own 1 3 0 (([] : List TEntry)).length) (heap' := [(0, .box (TPrefix.c p1)), (1, .row 3 33 (([] : List TEntry).map TEntry.c))]) (next' := 2) rfl rfl rfl rfl rfl rfl rfl ?_
 refine GX.m rfl ?_
 refine GX.done ?_
 refine WK.seq ?_
 refine WK.sr mixed ?_
 refine GX.m rfl ?_
 refine GX.done ?_
 refine WK.len (t := 0) rfl (by simp) (fun hlen_5 => ?_)
 rw [List.length_map] at hlen_5
 generalize hZ_5 : F21_crossroadsref06_Below_l1 p1 ([] : List TEntry) l0 = Z_5 at hR
 refine WK.forK (fun k s => ∃ (i6 : Nat) (out5 : List TEntry), i6 ≤ l0.length ∧ k = l0.length - i6 ∧ F21_crossroadsref06_Below_l1 p1 out5 (l0.drop i6) = Z_5 ∧ s = ⟨[(0, .ro 3 (l0.map TEntry.c)), (3, .ptr 0 0), (5, .own 1 3 0 out5.length), (6, .int .i64 (i6 : Int))], [(0, .box (TPrefix.c p1)), (1, .row 3 33 (out5.map TEntry.c))], 2⟩) l0.length ⟨⟨[(0, .ro 3 (l0.map TEntry.c)), (3, .ptr 0 0), (5, .own 1 3 0 ([] : List TEntry).length), (6, .int .i64 (0 : Int))], [(0, .box (TPrefix.c p1)), (1, .row 3 33 (([] : List TEntry).map TEntry.c))], 2⟩, Conv.keep [0, 1] [] [0, 3, 5, 6] rfl rfl (viewE_cons rfl rfl (viewE_cons rfl rfl (viewE_cons rfl rfl (viewE_cons rfl rfl viewE_nil)))) rfl rfl, 0, ([] : List TEntry), (by omega), rfl, hZ_5, rfl⟩ ?_
 rintro _ _ ⟨i6, out5, hi_5, rfl, hL_5, rfl⟩ again_5 out_5 Q_5 hagain_5 hout_5 hQ_5
 refine WK.seq ?_
 refine WK.sr mixed ?_
 iterate 2 refine GX.m rfl ?_
 refine GX.pure (v' := .int .i64 (l0.length : Int)) rfl rfl rfl rfl (len_map _ _) ?_
 refine GX.q (.bool (decide ((i6 : Int) < (l0.length : Int)))) ?_
 refine GX.done ?_
 rcases bool_two (decide ((i6 : Int) < (l0.length : Int))) with hb6 | hb6
 ·rw [hb6]
  rw [drop_end hb6, F21_crossroadsref06_Below_l1] at hL_5
  refine WK.condF rfl ?_
  refine WK.exit ?_
  refine QF.exit (hout_5 _ ?_)
  subst hL_5
  try dsimp only [cond_true, cond_false] at hR
  refine WK.sr mixed ?_
  iterate 2 refine GX.m rfl ?_
  refine GX.done ?_
  refine WK.ret ?_
  obtain rfl := Option.some.inj hR
  exact RetQ.fr [1] (.inr rfl) rfl rfl (viewGo_cons (view_rowT rfl rfl) viewGo_nil) rfl
 ·rw [hb6]
  obtain ⟨x6, hx5, hd5, hlt5⟩ := drop_more hb6
  rw [hd5, F21_crossroadsref06_Below_l1] at hL_5
  refine WK.condT rfl ?_
  refine WK.skip ?_
  refine WK.seq ?_
  refine WK.blockK (fun _ hK7 => ?_)
  refine WK.seq ?_
  refine WK.drawn mixed ?_
  refine RD.q (.agg (TPrefix.c p1)) ?_
  iterate 2 refine RD.m rfl ?_
  refine RD.idxT (c := TEntry.c) (x := x6) rfl rfl rfl (Int.natCast_nonneg _) hx5 ?_
  refine RD.q (.rptr (TEntry.c x6)) ?_
  refine RD.q (.agg [.int .u32 x6.P.A, .int .i64 x6.P.N]) ?_
  generalize hc20 : F35_crossroadsref03_Covers p1 x6.P = c20 at hL_5
  try dsimp only at hL_5
  refine RD.callp (r := .bool c20) rfl rfl rfl (f35_ok p1 x6.P _ hc20) rfl rfl ?_
  refine RD.done rfl ?_
  rcases bool_two (c20) with hb8 | hb8
  ·rw [hb8]; try simp only [hb8, bb] at hL_5
   refine WK.condF rfl ?_
   refine WK.skip ?_
   refine WK.nil (QF.normal (hK7 _ ?_))
   refine WK.regx mixed ?_
   refine GX.m rfl ?_
   refine GX.pure (v' := .int .i64 ((i6 + 1 : Nat) : Int)) rfl rfl rfl rfl (congrArg (PVal.int .i64) (wrap_up hlt5 hlen_5)) ?_
   refine GX.m rfl ?_
   refine GX.done ?_
   refine WK.nil (QF.normal ?_)
   exact hagain_5 _ (l0.length - (i6 + 1)) ⟨[(0, .ro 3 (l0.map TEntry.c)), (3, .ptr 0 0), (5, .own 1 3 0 out5.length), (6, .int .i64 ((i6 + 1) : Int))], [(0, .box (TPrefix.c p1)), (1, .row 3 33 (out5.map TEntry.c))], 2⟩ (by omega) (Conv.keep [0, 1] [] [0, 3, 5, 6] rfl rfl (viewE_cons rfl rfl (viewE_cons rfl rfl (viewE_cons rfl rfl (viewE_cons rfl rfl viewE_nil)))) rfl rfl) ⟨i6 + 1, out5, (by omega), rfl, hL_5, rfl⟩
  ·rw [hb8]; try simp only [hb8, bb] at hL_5
   refine WK.condT rfl ?_
   refine WK.regx mixed ?_
   iterate 3 refine GX.m rfl ?_
   refine GX.idxT (c := TEntry.c) (x := x6) rfl rfl rfl (Int.natCast_nonneg _) hx5 ?_
   refine GX.q (.agg (TEntry.c x6)) ?_
   refine GX.step (v' := .own 2 3 0 (([x6] : List TEntry)).length) (heap' := [(0, .box (TPrefix.c p1)), (1, .row 3 33 (out5.map TEntry.c)), (2, .row 3 33 (([x6] : List TEntry).map TEntry.c))]) (next' := 3) rfl rfl rfl rfl rfl rfl rfl ?_
   rcases bool_two (decide (out5.length < 1099511627776)) with hg9 | hg9
   ·simp only [hg9, bb] at hL_5
    try dsimp only at hL_5
    subst hL_5
    try dsimp only at hR
    cases hR
   simp only [hg9, bb] at hL_5
   have hg9_ := of_decide_eq_true hg9
   refine GX.appT (c := TEntry.c) (L := out5) (X := ([x6] : List TEntry)) (heap' := [(0, .box (TPrefix.c p1)), (2, .row 3 33 (([x6] : List TEntry).map TEntry.c)), (3, .row 3 33 ((out5 ++ ([x6] : List TEntry)).map TEntry.c))]) (next' := 4) rfl rfl rfl rfl (elems_own rfl) (by ((try simp only [List.length_append, List.length_cons, List.length_nil, List.length_map, decide_eq_true_eq, decide_eq_false_iff_not] at *) <;> omega)) (by ((try simp only [List.length_append, List.length_cons, List.length_nil, List.length_map, decide_eq_true_eq, decide_eq_false_iff_not] at *) <;> omega)) rfl rfl rfl rfl ?_
   refine GX.m rfl ?_
   refine GX.done ?_
   refine WK.nil (QF.normal (hK7 _ ?_))
   refine WK.regx mixed ?_
   refine GX.m rfl ?_
   refine GX.pure (v' := .int .i64 ((i6 + 1 : Nat) : Int)) rfl rfl rfl rfl (congrArg (PVal.int .i64) (wrap_up hlt5 hlen_5)) ?_
   refine GX.m rfl ?_
   refine GX.done ?_
   refine WK.nil (QF.normal ?_)
   exact hagain_5 _ (l0.length - (i6 + 1)) ⟨[(0, .ro 3 (l0.map TEntry.c)), (3, .ptr 0 0), (5, .own 1 3 0 (out5 ++ ([x6] : List TEntry)).length), (6, .int .i64 ((i6 + 1) : Int))], [(0, .box (TPrefix.c p1)), (1, .row 3 33 ((out5 ++ ([x6] : List TEntry)).map TEntry.c))], 2⟩ (by omega) (Conv.keep [0, 3] [] [0, 3, 5, 6] rfl rfl (viewE_cons rfl rfl (viewE_cons rfl rfl (viewE_cons rfl rfl (viewE_cons rfl rfl viewE_nil)))) rfl rfl) ⟨i6 + 1, (out5 ++ ([x6] : List TEntry)), (by omega), rfl, hL_5, rfl⟩

theorem f23_ok (l0 : List TEntry) (p1 : TPrefix) (R : (List TEntry)) (hR : F23_crossroadsref06_Above l0 p1 = some R) : FnOk Try.prog 23 [.ro 3 (l0.map TEntry.c), .agg (TPrefix.c p1)] [] 0 (.ro 3 (R.map TEntry.c)) [] 0 := by
 refine FnOk.wk i23 rfl rfl ?_
 unfold F23_crossroadsref06_Above at hR
 try dsimp only at hR
 change WK _ _ _ [ac23] _ ⟨[(0, .ro 3 (l0.map TEntry.c)), (1, .agg (TPrefix.c p1))], [], 0⟩
 unfold ac23
 refine WK.sr mixed ?_
 refine GX.step (v' := .ptr 0 0) (heap' := [(0, .box (TPrefix.c p1))]) (next' := 1) rfl rfl rfl rfl rfl rfl rfl ?_
 refine GX.m rfl ?_
 refine GX.done ?_
 refine WK.sr mixed ?_
 refine GX.step (v' := .own 1 3 0 (([] : List TEntry)).length) (heap' := [(0, .box (TPrefix.c p1)), (1, .row 3 33 (([] : List TEntry).map TEntry.c))]) (next' := 2) rfl rfl rfl rfl rfl rfl rfl ?_
 refine GX.m rfl ?_
 refine GX.done ?_
 refine WK.seq ?_
 refine WK.sr mixed ?_
 refine GX.m rfl ?_
 refine GX.done ?_
 refine WK.len (t := 0) rfl (by simp) (fun hln0_15 => ?_)
 rw [List.length_map] at hln0_15
 generalize hZ_15 : F23_crossroadsref06_Above_l2 l0 p1 ((33 - (0 : Int)).toNat + 1) 0 ([] : List TEntry) = Z_15 at hR
 refine WK.forK (fun k s => ∃ (n6 : Int) (out5 : List TEntry), (33 - (n6 : Int)).toNat < k ∧ 0 ≤ n6 ∧ n6 ≤ 33 ∧ F23_crossroadsref06_Above_l2 l0 p1 k n6 out5 = Z_15 ∧ s = ⟨[(0, .ro 3 (l0.map TEntry.c)), (3, .ptr 0 0), (5, .own 1 3 0 out5.length), (6, .int .i64 n6)], [(0, .box (TPrefix.c p1)), (1, .row 3 33 (out5.map TEntry.c))], 2⟩) ((33 - (0 : Int)).toNat + 1) ⟨⟨[(0, .ro 3 (l0.map TEntry.c)), (3, .ptr 0 0), (5, .own 1 3 0 ([] : List TEntry).length), (6, .int .i64 0)], [(0, .box (TPrefix.c p1)), (1, .row 3 33 (([] : List TEntry).map TEntry.c))], 2⟩, Conv.keep [0, 1] [] [0, 3, 5, 6] rfl rfl (viewE_cons rfl rfl (viewE_cons rfl rfl (viewE_cons rfl rfl (viewE_cons rfl rfl viewE_nil)))) rfl rfl, 0, ([] : List TEntry), Nat.lt_succ_self _, (by omega), (by omega), hZ_15, rfl⟩ ?_
 rintro k15 _ ⟨n6, out5, hfu15, hinv15_w0, hinv15_w1, hL_15, rfl⟩ again_15 out_15 Q_15 hagain_15 hout_15 hQ_15
 obtain ⟨f15, rfl⟩ : ∃ f, k15 = f + 1 := ⟨k15 - 1, by omega⟩
 unfold F23_crossroadsref06_Above_l2 at hL_15; try dsimp only at hL_15
 refine WK.seq ?_
 refine WK.sr mixed ?_
 refine GX.m rfl ?_
 refine GX.q (.bool (decide (n6 ≤ 32))) ?_
 refine GX.done ?_
 rcases bool_two (decide (n6 ≤ 32)) with hb16 | hb16
 ·rw [hb16]; try simp only [hb16, bb] at hL_15
  refine WK.condF rfl ?_
  refine WK.exit ?_
  refine QF.exit (hout_15 _ ?_)
  subst hL_15
  try dsimp only [cond_true, cond_false] at hR
  refine WK.sr mixed ?_
  iterate 2 refine GX.m rfl ?_
  refine GX.done ?_
  refine WK.ret ?_
  obtain rfl := Option.some.inj hR
  exact RetQ.fr [1] (.inr rfl) rfl rfl (viewGo_cons (view_rowT rfl rfl) viewGo_nil) rfl
 ·rw [hb16]; try simp only [hb16, bb] at hL_15
  refine WK.condT rfl ?_
  refine WK.skip ?_
  refine WK.seq ?_
  refine WK.blockK (fun _ hK17 => ?_)
  refine WK.sr mixed ?_
  refine GX.m rfl ?_
  refine GX.done ?_
  refine WK.len (t := 0) rfl (by simp) (fun hlen_24 => ?_)
  rw [List.length_map] at hlen_24
  generalize hZ_24 : F23_crossroadsref06_Above_l1 p1 n6 out5 l0 = Z_24 at hL_15
  refine WK.forK (fun k s => ∃ (i7 : Nat) (out5x : List TEntry), i7 ≤ l0.length ∧ k = l0.length - i7 ∧ F23_crossroadsref06_Above_l1 p1 n6 out5x (l0.drop i7) = Z_24 ∧ s = ⟨[(0, .ro 3 (l0.map TEntry.c)), (3, .ptr 0 0), (5, .own 1 3 0 out5x.length), (6, .int .i64 n6), (7, .int .i64 (i7 : Int))], [(0, .box (TPrefix.c p1)), (1, .row 3 33 (out5x.map TEntry.c))], 2⟩) l0.length ⟨⟨[(0, .ro 3 (l0.map TEntry.c)), (3, .ptr 0 0), (5, .own 1 3 0 out5.length), (6, .int .i64 n6), (7, .int .i64 (0 : Int))], [(0, .box (TPrefix.c p1)), (1, .row 3 33 (out5.map TEntry.c))], 2⟩, Conv.keep [0, 1] [] [0, 3, 5, 6, 7] rfl rfl (viewE_cons rfl rfl (viewE_cons rfl rfl (viewE_cons rfl rfl (viewE_cons rfl rfl (viewE_cons rfl rfl viewE_nil))))) rfl rfl, 0, out5, (by omega), rfl, hZ_24, rfl⟩ ?_
  rintro _ _ ⟨i7, out5x, hi_24, rfl, hL_24, rfl⟩ again_24 out_24 Q_24 hagain_24 hout_24 hQ_24
  refine WK.seq ?_
  refine WK.sr mixed ?_
  iterate 2 refine GX.m rfl ?_
  refine GX.pure (v' := .int .i64 (l0.length : Int)) rfl rfl rfl rfl (len_map _ _) ?_
  refine GX.q (.bool (decide ((i7 : Int) < (l0.length : Int)))) ?_
  refine GX.done ?_
  rcases bool_two (decide ((i7 : Int) < (l0.length : Int))) with hb25 | hb25
  ·rw [hb25]
   rw [drop_end hb25, F23_crossroadsref06_Above_l1] at hL_24
   refine WK.condF rfl ?_
   refine WK.exit ?_
   refine QF.exit (hout_24 _ ?_)
   subst hL_24
   try dsimp only [cond_true, cond_false] at hL_15
   refine WK.nil (QF.normal (hK17 _ ?_))
   refine WK.regx mixed ?_
   refine GX.m rfl ?_
   refine GX.q (.int .i64 (IntKind.i64.wrap (n6 + 1))) ?_
   refine GX.m rfl ?_
   refine GX.done ?_
   refine WK.nil (QF.normal ?_)
   exact hagain_15 _ f15 ⟨[(0, .ro 3 (l0.map TEntry.c)), (3, .ptr 0 0), (5, .own 1 3 0 out5x.length), (6, .int .i64 (IntKind.i64.wrap (n6 + 1)))], [(0, .box (TPrefix.c p1)), (1, .row 3 33 (out5x.map TEntry.c))], 2⟩ (Nat.lt_succ_self _) (Conv.keep [0, 1] [] [0, 3, 5, 6] rfl rfl (viewE_cons rfl rfl (viewE_cons rfl rfl (viewE_cons rfl rfl (viewE_cons rfl rfl viewE_nil)))) rfl rfl) ⟨(IntKind.i64.wrap (n6 + 1)), out5x, (by ((try simp only [decide_eq_true_eq, decide_eq_false_iff_not] at *); rw [wrap64_of (by omega) (by omega)]; omega)), (by ((try simp only [decide_eq_true_eq, decide_eq_false_iff_not] at *); rw [wrap64_of (by omega) (by omega)]; omega)), (by ((try simp only [decide_eq_true_eq, decide_eq_false_iff_not] at *); rw [wrap64_of (by omega) (by omega)]; omega)), hL_15, rfl⟩
  ·rw [hb25]
   obtain ⟨x7, hx24, hd24, hlt24⟩ := drop_more hb25
   rw [hd24, F23_crossroadsref06_Above_l1] at hL_24
   refine WK.condT rfl ?_
   refine WK.skip ?_
   refine WK.seq ?_
   refine WK.blockK (fun _ hK26 => ?_)
   refine WK.seq ?_
   refine WK.drawn mixed ?_
   iterate 2 refine RD.m rfl ?_
   refine RD.idxT (c := TEntry.c) (x := x7) rfl rfl rfl (Int.natCast_nonneg _) hx24 ?_
   refine RD.q (.rptr (TEntry.c x7)) ?_
   refine RD.q (.rptr [.int .i64 x7.P.N, .int .i64 x7.V]) ?_
   refine RD.q (.int .i64 x7.P.N) ?_
   refine RD.m rfl ?_
   refine RD.q (.bool (decide (x7.P.N = n6))) ?_
   refine RD.m rfl ?_
   rcases bool_two (decide (x7.P.N = n6)) with hb27 | hb27
   ·rw [hb27]; try simp only [hb27, bb] at hL_24
    iterate 7 refine RD.skip rfl rfl ?_
    refine RD.q (.bool false) ?_
    refine RD.done rfl ?_
    refine WK.condF rfl ?_
    refine WK.skip ?_
    refine WK.nil (QF.normal (hK26 _ ?_))
    refine WK.regx mixed ?_
    refine GX.m rfl ?_
    refine GX.pure (v' := .int .i64 ((i7 + 1 : Nat) : Int)) rfl rfl rfl rfl (congrArg (PVal.int .i64) (wrap_up hlt24 hlen_24)) ?_
    refine GX.m rfl ?_
    refine GX.done ?_
    refine WK.nil (QF.normal ?_)
    exact hagain_24 _ (l0.length - (i7 + 1)) ⟨[(0, .ro 3 (l0.map TEntry.c)), (3, .ptr 0 0), (5, .own 1 3 0 out5x.length), (6, .int .i64 n6), (7, .int .i64 ((i7 + 1) : Int))], [(0, .box (TPrefix.c p1)), (1, .row 3 33 (out5x.map TEntry.c))], 2⟩ (by omega) (Conv.keep [0, 1] [] [0, 3, 5, 6, 7] rfl rfl (viewE_cons rfl rfl (viewE_cons rfl rfl (viewE_cons rfl rfl (viewE_cons rfl rfl (viewE_cons rfl rfl viewE_nil))))) rfl rfl) ⟨i7 + 1, out5x, (by omega), rfl, hL_24, rfl⟩
   ·rw [hb27]; try simp only [hb27, bb] at hL_24
    iterate 2 refine RD.m rfl ?_
    refine RD.idxT (c := TEntry.c) (x := x7) rfl rfl rfl (Int.natCast_nonneg _) hx24 ?_
    refine RD.q (.rptr (TEntry.c x7)) ?_
    refine RD.q (.agg [.int .u32 x7.P.A, .int .i64 x7.P.N]) ?_
    refine RD.q (.agg (TPrefix.c p1)) ?_
    generalize hc34 : F35_crossroadsref03_Covers x7.P p1 = c34 at hL_24
    try dsimp only at hL_24
    refine RD.callp (r := .bool c34) rfl rfl rfl (f35_ok x7.P p1 _ hc34) rfl rfl ?_
    refine RD.q (.bool c34) ?_
    refine RD.done rfl ?_
    rcases bool_two (c34) with hb28 | hb28
    ·rw [hb28]; try simp only [hb28, bb] at hL_24
     refine WK.condF rfl ?_
     refine WK.skip ?_
     refine WK.nil (QF.normal (hK26 _ ?_))
     refine WK.regx mixed ?_
     refine GX.m rfl ?_
     refine GX.pure (v' := .int .i64 ((i7 + 1 : Nat) : Int)) rfl rfl rfl rfl (congrArg (PVal.int .i64) (wrap_up hlt24 hlen_24)) ?_
     refine GX.m rfl ?_
     refine GX.done ?_
     refine WK.nil (QF.normal ?_)
     exact hagain_24 _ (l0.length - (i7 + 1)) ⟨[(0, .ro 3 (l0.map TEntry.c)), (3, .ptr 0 0), (5, .own 1 3 0 out5x.length), (6, .int .i64 n6), (7, .int .i64 ((i7 + 1) : Int))], [(0, .box (TPrefix.c p1)), (1, .row 3 33 (out5x.map TEntry.c))], 2⟩ (by omega) (Conv.keep [0, 1] [] [0, 3, 5, 6, 7] rfl rfl (viewE_cons rfl rfl (viewE_cons rfl rfl (viewE_cons rfl rfl (viewE_cons rfl rfl (viewE_cons rfl rfl viewE_nil))))) rfl rfl) ⟨i7 + 1, out5x, (by omega), rfl, hL_24, rfl⟩
    ·rw [hb28]; try simp only [hb28, bb] at hL_24
     refine WK.condT rfl ?_
     refine WK.regx mixed ?_
     iterate 3 refine GX.m rfl ?_
     refine GX.idxT (c := TEntry.c) (x := x7) rfl rfl rfl (Int.natCast_nonneg _) hx24 ?_
     refine GX.q (.agg (TEntry.c x7)) ?_
     refine GX.step (v' := .own 2 3 0 (([x7] : List TEntry)).length) (heap' := [(0, .box (TPrefix.c p1)), (1, .row 3 33 (out5x.map TEntry.c)), (2, .row 3 33 (([x7] : List TEntry).map TEntry.c))]) (next' := 3) rfl rfl rfl rfl rfl rfl rfl ?_
     rcases bool_two (decide (out5x.length < 1099511627776)) with hg29 | hg29
     ·simp only [hg29, bb] at hL_24
      try dsimp only at hL_24
      subst hL_24
      try dsimp only at hL_15
      subst hL_15
      try dsimp only at hR
      cases hR
     simp only [hg29, bb] at hL_24
     have hg29_ := of_decide_eq_true hg29
     refine GX.appT (c := TEntry.c) (L := out5x) (X := ([x7] : List TEntry)) (heap' := [(0, .box (TPrefix.c p1)), (2, .row 3 33 (([x7] : List TEntry).map TEntry.c)), (3, .row 3 33 ((out5x ++ ([x7] : List TEntry)).map TEntry.c))]) (next' := 4) rfl rfl rfl rfl (elems_own rfl) (by ((try simp only [List.length_append, List.length_cons, List.length_nil, List.length_map, decide_eq_true_eq, decide_eq_false_iff_not] at *) <;> omega)) (by ((try simp only [List.length_append, List.length_cons, List.length_nil, List.length_map, decide_eq_true_eq, decide_eq_false_iff_not] at *) <;> omega)) rfl rfl rfl rfl ?_
     refine GX.m rfl ?_
     refine GX.done ?_
     refine WK.nil (QF.normal (hK26 _ ?_))
     refine WK.regx mixed ?_
     refine GX.m rfl ?_
     refine GX.pure (v' := .int .i64 ((i7 + 1 : Nat) : Int)) rfl rfl rfl rfl (congrArg (PVal.int .i64) (wrap_up hlt24 hlen_24)) ?_
     refine GX.m rfl ?_
     refine GX.done ?_
     refine WK.nil (QF.normal ?_)
     exact hagain_24 _ (l0.length - (i7 + 1)) ⟨[(0, .ro 3 (l0.map TEntry.c)), (3, .ptr 0 0), (5, .own 1 3 0 (out5x ++ ([x7] : List TEntry)).length), (6, .int .i64 n6), (7, .int .i64 ((i7 + 1) : Int))], [(0, .box (TPrefix.c p1)), (1, .row 3 33 ((out5x ++ ([x7] : List TEntry)).map TEntry.c))], 2⟩ (by omega) (Conv.keep [0, 3] [] [0, 3, 5, 6, 7] rfl rfl (viewE_cons rfl rfl (viewE_cons rfl rfl (viewE_cons rfl rfl (viewE_cons rfl rfl (viewE_cons rfl rfl viewE_nil))))) rfl rfl) ⟨i7 + 1, (out5x ++ ([x7] : List TEntry)), (by omega), rfl, hL_24, rfl⟩

theorem f4_ok (script0 : List TAct) (q1 : TPrefix) (R : Bool) (hR : F4_crossroadslaw06_TriePlays script0 q1 = some R) : FnOk Try.prog 4 [.ro 5 (script0.map TAct.c), .agg (TPrefix.c q1)] [] 0 (.bool R) [] 0 := by
 refine FnOk.wk i4 rfl rfl ?_
 unfold F4_crossroadslaw06_TriePlays at hR
 try dsimp only at hR
 change WK _ _ _ [ac4] _ ⟨[(0, .ro 5 (script0.map TAct.c)), (1, .agg (TPrefix.c q1))], [], 0⟩
 unfold ac4
 refine WK.sr mixed ?_
 refine GX.step (v' := .ptr 0 0) (heap' := [(0, .box (TPrefix.c q1))]) (next' := 1) rfl rfl rfl rfl rfl rfl rfl ?_
 refine GX.m rfl ?_
 refine GX.done ?_
 refine WK.sr mixed ?_
 generalize hc19 : F9_trie_New = c19 at hR
 try dsimp only at hR
 refine GX.callx (r' := .ptr 1 0) (heap' := [(0, .box (TPrefix.c q1)), (3, .row 1 3 (c19.free.map c_i64)), (2, .row 6 69 (c19.l.map TNode.c)), (1, .box [.own 2 6 0 c19.l.length, .own 3 1 0 c19.free.length, .int .i64 c19.root, .int .i64 c19.n])]) (next' := 4) [] [] rfl rfl rfl rfl rfl rfl (f9_ok  _ hc19) (.inl rfl) rfl rfl rfl ?_
 refine GX.m rfl ?_
 refine GX.done ?_
 refine WK.seq ?_
 refine WK.sr mixed ?_
 refine GX.m rfl ?_
 refine GX.q (.bool false) ?_
 refine GX.done ?_
 refine WK.condF rfl ?_
 refine WK.skip ?_
 refine WK.sr mixed ?_
 refine GX.step (v' := .own 4 3 0 (([] : List TEntry)).length) (heap' := [(0, .box (TPrefix.c q1)), (3, .row 1 3 (c19.free.map c_i64)), (2, .row 6 69 (c19.l.map TNode.c)), (1, .box [.own 2 6 0 c19.l.length, .own 3 1 0 c19.free.length, .int .i64 c19.root, .int .i64 c19.n]), (4, .row 3 33 (([] : List TEntry).map TEntry.c))]) (next' := 5) rfl rfl rfl rfl rfl rfl rfl ?_
 refine GX.m rfl ?_
 refine GX.done ?_
 refine WK.seq ?_
 refine WK.sr mixed ?_
 refine GX.m rfl ?_
 refine GX.done ?_
 refine WK.len (t := 0) rfl (by simp) (fun hlen_58 => ?_)
 rw [List.length_map] at hlen_58
 generalize hZ_58 : F4_crossroadslaw06_TriePlays_l1 ([] : List TEntry) c19.root c19.n c19.l c19.free 0 script0 = Z_58 at hR
 refine WK.forK (fun k s => ∃ (i7 : Nat) (m6 : List TEntry) (t_2_5 : Int) (t_3_5 : Int) (row2 : List TNode) (row3 : List Int), i7 ≤ script0.length ∧ k = script0.length - i7 ∧ F4_crossroadslaw06_TriePlays_l1 m6 t_2_5 t_3_5 row2 row3 i7 (script0.drop i7) = Z_58 ∧ s = ⟨[(0, .ro 5 (script0.map TAct.c)), (3, .ptr 0 0), (5, .ptr 1 0), (6, .ro 3 (m6.map TEntry.c)), (7, .int .i64 (i7 : Int))], [(0, .box (TPrefix.c q1)), (1, .box [.own 2 6 0 row2.length, .own 3 1 0 row3.length, .int .i64 t_2_5, .int .i64 t_3_5]), (2, .row 6 69 (row2.map TNode.c)), (3, .row 1 3 (row3.map c_i64))], 4⟩) script0.length ⟨⟨[(0, .ro 5 (script0.map TAct.c)), (3, .ptr 0 0), (5, .ptr 1 0), (6, .ro 3 (([] : List TEntry).map TEntry.c)), (7, .int .i64 (0 : Int))], [(0, .box (TPrefix.c q1)), (1, .box [.own 2 6 0 c19.l.length, .own 3 1 0 c19.free.length, .int .i64 c19.root, .int .i64 c19.n]), (2, .row 6 69 (c19.l.map TNode.c)), (3, .row 1 3 (c19.free.map c_i64))], 4⟩, Conv.keep [0, 1, 2, 3] [4] [0, 3, 5, 6, 7] rfl rfl (viewE_cons rfl rfl (viewE_cons rfl rfl (viewE_cons rfl rfl (viewE_cons rfl (view_rowT rfl rfl) (viewE_cons rfl rfl viewE_nil))))) rfl rfl, 0, ([] : List TEntry), c19.root, c19.n, c19.l, c19.free, (by omega), rfl, hZ_58, rfl⟩ ?_
 rintro _ _ ⟨i7, m6, t_2_5, t_3_5, row2, row3, hi_58, rfl, hL_58, rfl⟩ again_58 out_58 Q_58 hagain_58 hout_58 hQ_58
 refine WK.seq ?_
 refine WK.sr mixed ?_
 iterate 2 refine GX.m rfl ?_
 refine GX.pure (v' := .int .i64 (script0.length : Int)) rfl rfl rfl rfl (len_map _ _) ?_
 refine GX.q (.bool (decide ((i7 : Int) < (script0.length : Int)))) ?_
 refine GX.m rfl ?_
 rcases bool_two (decide ((i7 : Int) < (script0.length : Int))) with hb59 | hb59
 ·rw [hb59]
  rw [drop_end hb59, F4_crossroadslaw06_TriePlays_l1] at hL_58
  iterate 2 refine GX.skip rfl rfl ?_
  refine GX.q (.bool false) ?_
  refine GX.done ?_
  refine WK.condF rfl ?_
  refine WK.exit ?_
  refine QF.exit (hout_58 _ ?_)
  subst hL_58
  try dsimp only [cond_true, cond_false] at hR
  refine WK.seq ?_
  refine WK.drawn mixed ?_
  generalize hc102 : F12_crossroadslaw06_alive = c102 at hR
  try dsimp only at hR
  refine RD.callp (r := .bool c102) rfl rfl rfl (f12_ok  _ hc102) rfl rfl ?_
  refine RD.m rfl ?_
  rcases bool_two (c102) with hb60 | hb60
  ·rw [hb60]; first | replace hR := cond_f hb60 hR | (try simp only [hb60, bb] at hR)
   iterate 4 refine RD.skip rfl rfl ?_
   refine RD.q (.bool false) ?_
   refine RD.m rfl ?_
   iterate 7 refine RD.skip rfl rfl ?_
   refine RD.q (.bool false) ?_
   refine RD.m rfl ?_
   iterate 7 refine RD.skip rfl rfl ?_
   refine RD.q (.bool false) ?_
   refine RD.m rfl ?_
   refine RD.doneB [0, 1, 3, 7, 3, 31, 63, 127, 255, 255, 1023, 255, 255, 8191, 16383, 32767, 65535, 131071, 131071, 524287, 131071, 131071, 4194303, 8388607, 16777215, 33554431] (by kernel_rfl) (by kernel_rfl) (by kernel_rfl) ?_
   refine WK.ret ?_
   obtain rfl := Option.some.inj hR
   exact RetQ.fr [] (.inr rfl) rfl rfl rfl rfl
  ·rw [hb60]; first | replace hR := cond_t hb60 hR | (try simp only [hb60, bb] at hR)
   refine RD.m rfl ?_
   generalize hc105 : F14_trie_Trie_Walk (⟨row2, row3, t_2_5, t_3_5⟩ : TTrie) = c105 at hR
   rcases c105 with _ | c105
   ·try dsimp only at hR
    cases hR
   try dsimp only at hR
   try dsimp only at hR
   refine RD.callx (r' := .ro 3 (c105.map TEntry.c)) (heap' := [(0, .box (TPrefix.c q1)), (1, .box [.own 2 6 0 row2.length, .own 3 1 0 row3.length, .int .i64 t_2_5, .int .i64 t_3_5]), (2, .row 6 69 (row2.map TNode.c)), (3, .row 1 3 (row3.map c_i64))]) (next' := 4) [1, 2, 3] [] rfl rfl rfl rfl rfl rfl (f14_ok (⟨row2, row3, t_2_5, t_3_5⟩ : TTrie) _ hc105) (.inl rfl) rfl rfl rfl ?_
   refine RD.m rfl ?_
   generalize hc107 : F13_crossroadsref06_Same c105 m6 = c107 at hR
   try dsimp only at hR
   refine RD.callp (r := .bool c107) rfl rfl rfl (f13_ok c105 m6 _ hc107) rfl rfl ?_
   refine RD.q (.bool c107) ?_
   refine RD.m rfl ?_
   rcases bool_two (c107) with hb62 | hb62
   ·rw [hb62]; first | replace hR := cond_f hb62 hR | (try simp only [hb62, bb] at hR)
    iterate 7 refine RD.skip rfl rfl ?_
    refine RD.q (.bool false) ?_
    refine RD.m rfl ?_
    iterate 7 refine RD.skip rfl rfl ?_
    refine RD.q (.bool false) ?_
    refine RD.m rfl ?_
    refine RD.doneB [0, 1, 3, 7, 3, 31, 63, 127, 255, 255, 1023, 255, 255, 8191, 16383, 32767, 65535, 131071, 131071, 524287, 131071, 131071, 4194303, 8388607, 16777215, 33554431] (by kernel_rfl) (by kernel_rfl) (by kernel_rfl) ?_
    refine WK.ret ?_
    obtain rfl := Option.some.inj hR
    exact RetQ.fr [] (.inr rfl) rfl rfl rfl rfl
   ·rw [hb62]; first | replace hR := cond_t hb62 hR | (try simp only [hb62, bb] at hR)
    refine RD.m rfl ?_
    refine RD.q (.agg (TPrefix.c q1)) ?_
    generalize hc112 : F20_trie_Trie_Below (⟨row2, row3, t_2_5, t_3_5⟩ : TTrie) q1 = c112 at hR
    rcases c112 with _ | c112
    ·try dsimp only at hR
     cases hR
    try dsimp only at hR
    try dsimp only at hR
    refine RD.callx (r' := .ro 3 (c112.map TEntry.c)) (heap' := [(0, .box (TPrefix.c q1)), (1, .box [.own 2 6 0 row2.length, .own 3 1 0 row3.length, .int .i64 t_2_5, .int .i64 t_3_5]), (2, .row 6 69 (row2.map TNode.c)), (3, .row 1 3 (row3.map c_i64))]) (next' := 4) [1, 2, 3] [] rfl rfl rfl rfl rfl rfl (f20_ok (⟨row2, row3, t_2_5, t_3_5⟩ : TTrie) q1 _ hc112) (.inl rfl) rfl rfl rfl ?_
    refine RD.m rfl ?_
    refine RD.q (.agg (TPrefix.c q1)) ?_
    generalize hc115 : F21_crossroadsref06_Below m6 q1 = c115 at hR
    rcases c115 with _ | c115
    ·try dsimp only at hR
     cases hR
    try dsimp only at hR
    try dsimp only at hR
    refine RD.callp (r := .ro 3 (c115.map TEntry.c)) rfl rfl rfl (f21_ok m6 q1 _ hc115) rfl rfl ?_
    generalize hc116 : F13_crossroadsref06_Same c112 c115 = c116 at hR
    try dsimp only at hR
    refine RD.callp (r := .bool c116) rfl rfl rfl (f13_ok c112 c115 _ hc116) rfl rfl ?_
    refine RD.q (.bool c116) ?_
    refine RD.m rfl ?_
    rcases bool_two (c116) with hb64 | hb64
    ·rw [hb64]; first | replace hR := cond_f hb64 hR | (try simp only [hb64, bb] at hR)
     iterate 7 refine RD.skip rfl rfl ?_
     refine RD.q (.bool false) ?_
     refine RD.m rfl ?_
     refine RD.doneB [0, 1, 3, 7, 3, 31, 63, 127, 255, 255, 1023, 255, 255, 8191, 16383, 32767, 65535, 131071, 131071, 524287, 131071, 131071, 4194303, 8388607, 16777215, 33554431] (by kernel_rfl) (by kernel_rfl) (by kernel_rfl) ?_
     refine WK.ret ?_
     obtain rfl := Option.some.inj hR
     exact RetQ.fr [] (.inr rfl) rfl rfl rfl rfl
    ·rw [hb64]; first | replace hR := cond_t hb64 hR | (try simp only [hb64, bb] at hR)
     refine RD.m rfl ?_
     refine RD.q (.agg (TPrefix.c q1)) ?_
     generalize hc121 : F22_trie_Trie_Above (⟨row2, row3, t_2_5, t_3_5⟩ : TTrie) q1 = c121 at hR
     rcases c121 with _ | c121
     ·try dsimp only at hR
      cases hR
     try dsimp only at hR
     try dsimp only at hR
     refine RD.callx (r' := .ro 3 (c121.map TEntry.c)) (heap' := [(0, .box (TPrefix.c q1)), (1, .box [.own 2 6 0 row2.length, .own 3 1 0 row3.length, .int .i64 t_2_5, .int .i64 t_3_5]), (2, .row 6 69 (row2.map TNode.c)), (3, .row 1 3 (row3.map c_i64))]) (next' := 4) [1, 2, 3] [] rfl rfl rfl rfl rfl rfl (f22_ok (⟨row2, row3, t_2_5, t_3_5⟩ : TTrie) q1 _ hc121) (.inl rfl) rfl rfl rfl ?_
     refine RD.m rfl ?_
     refine RD.q (.agg (TPrefix.c q1)) ?_
     generalize hc124 : F23_crossroadsref06_Above m6 q1 = c124 at hR
     rcases c124 with _ | c124
     ·try dsimp only at hR
      cases hR
     try dsimp only at hR
     try dsimp only at hR
     refine RD.callp (r := .ro 3 (c124.map TEntry.c)) rfl rfl rfl (f23_ok m6 q1 _ hc124) rfl rfl ?_
     generalize hc125 : F13_crossroadsref06_Same c121 c124 = c125 at hR
     try dsimp only at hR
     refine RD.callp (r := .bool c125) rfl rfl rfl (f13_ok c121 c124 _ hc125) rfl rfl ?_
     refine RD.q (.bool c125) ?_
     refine RD.m rfl ?_
     refine RD.doneB [0, 1, 3, 7, 3, 31, 63, 127, 255, 255, 1023, 255, 255, 8191, 16383, 32767, 65535, 131071, 131071, 524287, 131071, 131071, 4194303, 8388607, 16777215, 33554431] (by kernel_rfl) (by kernel_rfl) (by kernel_rfl) ?_
     refine WK.ret ?_
     obtain rfl := Option.some.inj hR
     exact RetQ.fr [] (.inr rfl) rfl rfl rfl rfl
 ·rw [hb59]
  obtain ⟨x7, hx58, hd58, hlt58⟩ := drop_more hb59
  rw [hd58, F4_crossroadslaw06_TriePlays_l1] at hL_58
  refine GX.m rfl ?_
  iterate 2 refine GX.q (.bool (decide ((i7 : Int) < 150))) ?_
  refine GX.done ?_
  rcases bool_two (decide ((i7 : Int) < 150)) with hb66 | hb66
  ·rw [hb66]; try simp only [hb66, bb] at hL_58
   refine WK.condF rfl ?_
   refine WK.exit ?_
   refine QF.exit (hout_58 _ ?_)
   subst hL_58
   try dsimp only [cond_true, cond_false] at hR
   refine WK.seq ?_
   refine WK.drawn mixed ?_
   generalize hc102 : F12_crossroadslaw06_alive = c102 at hR
   try dsimp only at hR
   refine RD.callp (r := .bool c102) rfl rfl rfl (f12_ok  _ hc102) rfl rfl ?_
   refine RD.m rfl ?_
   rcases bool_two (c102) with hb67 | hb67
   ·rw [hb67]; first | replace hR := cond_f hb67 hR | (try simp only [hb67, bb] at hR)
    iterate 4 refine RD.skip rfl rfl ?_
    refine RD.q (.bool false) ?_
    refine RD.m rfl ?_
    iterate 7 refine RD.skip rfl rfl ?_
    refine RD.q (.bool false) ?_
    refine RD.m rfl ?_
    iterate 7 refine RD.skip rfl rfl ?_
    refine RD.q (.bool false) ?_
    refine RD.m rfl ?_
    refine RD.doneB [0, 1, 3, 7, 3, 31, 63, 127, 255, 255, 1023, 255, 255, 8191, 16383, 32767, 65535, 131071, 131071, 524287, 131071, 131071, 4194303, 8388607, 16777215, 33554431] (by kernel_rfl) (by kernel_rfl) (by kernel_rfl) ?_
    refine WK.ret ?_
    obtain rfl := Option.some.inj hR
    exact RetQ.fr [] (.inr rfl) rfl rfl rfl rfl
   ·rw [hb67]; first | replace hR := cond_t hb67 hR | (try simp only [hb67, bb] at hR)
    refine RD.m rfl ?_
    generalize hc105 : F14_trie_Trie_Walk (⟨row2, row3, t_2_5, t_3_5⟩ : TTrie) = c105 at hR
    rcases c105 with _ | c105
    ·try dsimp only at hR
     cases hR
    try dsimp only at hR
    try dsimp only at hR
    refine RD.callx (r' := .ro 3 (c105.map TEntry.c)) (heap' := [(0, .box (TPrefix.c q1)), (1, .box [.own 2 6 0 row2.length, .own 3 1 0 row3.length, .int .i64 t_2_5, .int .i64 t_3_5]), (2, .row 6 69 (row2.map TNode.c)), (3, .row 1 3 (row3.map c_i64))]) (next' := 4) [1, 2, 3] [] rfl rfl rfl rfl rfl rfl (f14_ok (⟨row2, row3, t_2_5, t_3_5⟩ : TTrie) _ hc105) (.inl rfl) rfl rfl rfl ?_
    refine RD.m rfl ?_
    generalize hc107 : F13_crossroadsref06_Same c105 m6 = c107 at hR
    try dsimp only at hR
    refine RD.callp (r := .bool c107) rfl rfl rfl (f13_ok c105 m6 _ hc107) rfl rfl ?_
    refine RD.q (.bool c107) ?_
    refine RD.m rfl ?_
    rcases bool_two (c107) with hb69 | hb69
    ·rw [hb69]; first | replace hR := cond_f hb69 hR | (try simp only [hb69, bb] at hR)
     iterate 7 refine RD.skip rfl rfl ?_
     refine RD.q (.bool false) ?_
     refine RD.m rfl ?_
     iterate 7 refine RD.skip rfl rfl ?_
     refine RD.q (.bool false) ?_
     refine RD.m rfl ?_
     refine RD.doneB [0, 1, 3, 7, 3, 31, 63, 127, 255, 255, 1023, 255, 255, 8191, 16383, 32767, 65535, 131071, 131071, 524287, 131071, 131071, 4194303, 8388607, 16777215, 33554431] (by kernel_rfl) (by kernel_rfl) (by kernel_rfl) ?_
     refine WK.ret ?_
     obtain rfl := Option.some.inj hR
     exact RetQ.fr [] (.inr rfl) rfl rfl rfl rfl
    ·rw [hb69]; first | replace hR := cond_t hb69 hR | (try simp only [hb69, bb] at hR)
     refine RD.m rfl ?_
     refine RD.q (.agg (TPrefix.c q1)) ?_
     generalize hc112 : F20_trie_Trie_Below (⟨row2, row3, t_2_5, t_3_5⟩ : TTrie) q1 = c112 at hR
     rcases c112 with _ | c112
     ·try dsimp only at hR
      cases hR
     try dsimp only at hR
     try dsimp only at hR
     refine RD.callx (r' := .ro 3 (c112.map TEntry.c)) (heap' := [(0, .box (TPrefix.c q1)), (1, .box [.own 2 6 0 row2.length, .own 3 1 0 row3.length, .int .i64 t_2_5, .int .i64 t_3_5]), (2, .row 6 69 (row2.map TNode.c)), (3, .row 1 3 (row3.map c_i64))]) (next' := 4) [1, 2, 3] [] rfl rfl rfl rfl rfl rfl (f20_ok (⟨row2, row3, t_2_5, t_3_5⟩ : TTrie) q1 _ hc112) (.inl rfl) rfl rfl rfl ?_
     refine RD.m rfl ?_
     refine RD.q (.agg (TPrefix.c q1)) ?_
     generalize hc115 : F21_crossroadsref06_Below m6 q1 = c115 at hR
     rcases c115 with _ | c115
     ·try dsimp only at hR
      cases hR
     try dsimp only at hR
     try dsimp only at hR
     refine RD.callp (r := .ro 3 (c115.map TEntry.c)) rfl rfl rfl (f21_ok m6 q1 _ hc115) rfl rfl ?_
     generalize hc116 : F13_crossroadsref06_Same c112 c115 = c116 at hR
     try dsimp only at hR
     refine RD.callp (r := .bool c116) rfl rfl rfl (f13_ok c112 c115 _ hc116) rfl rfl ?_
     refine RD.q (.bool c116) ?_
     refine RD.m rfl ?_
     rcases bool_two (c116) with hb71 | hb71
     ·rw [hb71]; first | replace hR := cond_f hb71 hR | (try simp only [hb71, bb] at hR)
      iterate 7 refine RD.skip rfl rfl ?_
      refine RD.q (.bool false) ?_
      refine RD.m rfl ?_
      refine RD.doneB [0, 1, 3, 7, 3, 31, 63, 127, 255, 255, 1023, 255, 255, 8191, 16383, 32767, 65535, 131071, 131071, 524287, 131071, 131071, 4194303, 8388607, 16777215, 33554431] (by kernel_rfl) (by kernel_rfl) (by kernel_rfl) ?_
      refine WK.ret ?_
      obtain rfl := Option.some.inj hR
      exact RetQ.fr [] (.inr rfl) rfl rfl rfl rfl
     ·rw [hb71]; first | replace hR := cond_t hb71 hR | (try simp only [hb71, bb] at hR)
      refine RD.m rfl ?_
      refine RD.q (.agg (TPrefix.c q1)) ?_
      generalize hc121 : F22_trie_Trie_Above (⟨row2, row3, t_2_5, t_3_5⟩ : TTrie) q1 = c121 at hR
      rcases c121 with _ | c121
      ·try dsimp only at hR
       cases hR
      try dsimp only at hR
      try dsimp only at hR
      refine RD.callx (r' := .ro 3 (c121.map TEntry.c)) (heap' := [(0, .box (TPrefix.c q1)), (1, .box [.own 2 6 0 row2.length, .own 3 1 0 row3.length, .int .i64 t_2_5, .int .i64 t_3_5]), (2, .row 6 69 (row2.map TNode.c)), (3, .row 1 3 (row3.map c_i64))]) (next' := 4) [1, 2, 3] [] rfl rfl rfl rfl rfl rfl (f22_ok (⟨row2, row3, t_2_5, t_3_5⟩ : TTrie) q1 _ hc121) (.inl rfl) rfl rfl rfl ?_
      refine RD.m rfl ?_
      refine RD.q (.agg (TPrefix.c q1)) ?_
      generalize hc124 : F23_crossroadsref06_Above m6 q1 = c124 at hR
      rcases c124 with _ | c124
      ·try dsimp only at hR
       cases hR
      try dsimp only at hR
      try dsimp only at hR
      refine RD.callp (r := .ro 3 (c124.map TEntry.c)) rfl rfl rfl (f23_ok m6 q1 _ hc124) rfl rfl ?_
      generalize hc125 : F13_crossroadsref06_Same c121 c124 = c125 at hR
      try dsimp only at hR
      refine RD.callp (r := .bool c125) rfl rfl rfl (f13_ok c121 c124 _ hc125) rfl rfl ?_
      refine RD.q (.bool c125) ?_
      refine RD.m rfl ?_
      refine RD.doneB [0, 1, 3, 7, 3, 31, 63, 127, 255, 255, 1023, 255, 255, 8191, 16383, 32767, 65535, 131071, 131071, 524287, 131071, 131071, 4194303, 8388607, 16777215, 33554431] (by kernel_rfl) (by kernel_rfl) (by kernel_rfl) ?_
      refine WK.ret ?_
      obtain rfl := Option.some.inj hR
      exact RetQ.fr [] (.inr rfl) rfl rfl rfl rfl
  ·rw [hb66]; try simp only [hb66, bb] at hL_58
   refine WK.condT rfl ?_
   refine WK.skip ?_
   refine WK.seq ?_
   refine WK.blockK (fun _ hK73 => ?_)
   refine WK.sr mixed ?_
   iterate 2 refine GX.m rfl ?_
   refine GX.idxT (c := TAct.c) (x := x7) rfl rfl rfl (Int.natCast_nonneg _) hx58 ?_
   refine GX.q (.agg (TAct.c x7)) ?_
   refine GX.step (v' := .ptr 4 0) (heap' := [(0, .box (TPrefix.c q1)), (1, .box [.own 2 6 0 row2.length, .own 3 1 0 row3.length, .int .i64 t_2_5, .int .i64 t_3_5]), (2, .row 6 69 (row2.map TNode.c)), (3, .row 1 3 (row3.map c_i64)), (4, .box [.bool false, .int .u32 0, .int .i64 0, .int .i64 0, .int .u32 0])]) (next' := 5) rfl rfl rfl rfl rfl rfl rfl ?_
   refine GX.step0 (heap' := [(0, .box (TPrefix.c q1)), (1, .box [.own 2 6 0 row2.length, .own 3 1 0 row3.length, .int .i64 t_2_5, .int .i64 t_3_5]), (2, .row 6 69 (row2.map TNode.c)), (3, .row 1 3 (row3.map c_i64)), (4, .box (TAct.c x7))]) (next' := 5) rfl rfl rfl rfl rfl ?_
   refine GX.done ?_
   refine WK.seq ?_
   refine WK.sr mixed ?_
   refine GX.q (.ptr 4 0) ?_
   refine GX.q (.bool x7.Drop) ?_
   refine GX.done ?_
   rcases bool_two (x7.Drop) with hb74 | hb74
   ·rw [hb74]; try simp only [hb74, bb] at hL_58
    refine WK.condF rfl ?_
    refine WK.sr mixed ?_
    refine GX.m rfl ?_
    refine GX.q (.ptr 4 1) ?_
    refine GX.q (.agg [.int .u32 x7.P.A, .int .i64 x7.P.N]) ?_
    refine GX.q (.ptr 4 3) ?_
    refine GX.q (.int .i64 x7.V) ?_
    generalize hc59 : F10_trie_Trie_Set (⟨row2, row3, t_2_5, t_3_5⟩ : TTrie) x7.P x7.V = c59 at hL_58
    rcases c59 with _ | c59
    ·try dsimp only at hL_58
     subst hL_58
     try dsimp only at hR
     cases hR
    try dsimp only at hL_58
    obtain ⟨c59a, c59b⟩ := c59; try dsimp only at hL_58
    refine GX.callx (r' := .int .i64 c59a) (heap' := [(0, .box (TPrefix.c q1)), (1, .box [.own 5 6 0 c59b.l.length, .own 6 1 0 c59b.free.length, .int .i64 c59b.root, .int .i64 c59b.n]), (4, .box (TAct.c x7)), (6, .row 1 3 (c59b.free.map c_i64)), (5, .row 6 69 (c59b.l.map TNode.c))]) (next' := 7) [1, 2, 3] [] rfl rfl rfl rfl rfl rfl (f10_ok (⟨row2, row3, t_2_5, t_3_5⟩ : TTrie) x7.P x7.V _ hc59) (.inl rfl) rfl rfl rfl ?_
    refine GX.m rfl ?_
    refine GX.done ?_
    refine WK.sr mixed ?_
    refine GX.m rfl ?_
    refine GX.q (.ptr 4 1) ?_
    refine GX.q (.agg [.int .u32 x7.P.A, .int .i64 x7.P.N]) ?_
    refine GX.q (.ptr 4 3) ?_
    refine GX.q (.int .i64 x7.V) ?_
    generalize hc66 : F18_crossroadsref06_Set m6 x7.P x7.V = c66 at hL_58
    rcases c66 with _ | c66
    ·try dsimp only at hL_58
     subst hL_58
     try dsimp only at hR
     cases hR
    try dsimp only at hL_58
    obtain ⟨c66a, c66b⟩ := c66; try dsimp only at hL_58
    refine GX.callp (r := .tup [.ro 3 (c66a.map TEntry.c), .int .i64 c66b]) rfl rfl rfl (f18_ok m6 x7.P x7.V _ hc66) rfl rfl ?_
    refine GX.m rfl ?_
    refine GX.q (.ro 3 (c66a.map TEntry.c)) ?_
    refine GX.q (.int .i64 c66b) ?_
    iterate 2 refine GX.m rfl ?_
    refine GX.done ?_
    refine WK.sr mixed ?_
    iterate 2 refine GX.m rfl ?_
    refine GX.done ?_
    refine WK.sr mixed ?_
    iterate 2 refine GX.m rfl ?_
    refine GX.q (.bool (!decide (c59a = c66b))) ?_
    refine GX.done ?_
    rcases bool_two (decide (c59a = c66b)) with hb76 | hb76
    ·rw [hb76]; try simp only [hb76, bb] at hL_58
     refine WK.condT rfl ?_
     refine WK.sr mixed ?_
     refine GX.m rfl ?_
     refine GX.done ?_
     refine WK.ret ?_
     refine QF.ret ?_
     refine QF.ret (hQ_58 _ _ ?_)
     subst hL_58
     try dsimp only at hR
     obtain rfl := Option.some.inj hR
     exact RetQ.fr [] (.inr rfl) rfl rfl rfl rfl
    ·rw [hb76]; try simp only [hb76, bb] at hL_58
     refine WK.condF rfl ?_
     refine WK.skip ?_
     refine WK.sr mixed ?_
     refine GX.m rfl ?_
     refine GX.q (.ptr 4 4) ?_
     refine GX.q (.int .u32 x7.A) ?_
     generalize hc77 : F11_trie_Trie_Find c59b x7.A = c77 at hL_58
     rcases c77 with _ | c77
     ·try dsimp only at hL_58
      subst hL_58
      try dsimp only at hR
      cases hR
     try dsimp only at hL_58
     obtain ⟨c77a, c77b⟩ := c77; try dsimp only at hL_58
     refine GX.callx (r' := .tup [.agg (TEntry.c c77a), .bool c77b]) (heap' := [(0, .box (TPrefix.c q1)), (1, .box [.own 5 6 0 c59b.l.length, .own 6 1 0 c59b.free.length, .int .i64 c59b.root, .int .i64 c59b.n]), (4, .box (TAct.c x7)), (6, .row 1 3 (c59b.free.map c_i64)), (5, .row 6 69 (c59b.l.map TNode.c))]) (next' := 7) [1, 5, 6] [] rfl rfl rfl rfl rfl rfl (f11_ok c59b x7.A _ hc77) (.inl rfl) rfl rfl rfl ?_
     refine GX.m rfl ?_
     refine GX.q (.agg (TEntry.c c77a)) ?_
     refine GX.q (.bool c77b) ?_
     refine GX.step (v' := .ptr 7 0) (heap' := [(0, .box (TPrefix.c q1)), (1, .box [.own 5 6 0 c59b.l.length, .own 6 1 0 c59b.free.length, .int .i64 c59b.root, .int .i64 c59b.n]), (4, .box (TAct.c x7)), (6, .row 1 3 (c59b.free.map c_i64)), (5, .row 6 69 (c59b.l.map TNode.c)), (7, .box [.int .u32 0, .int .i64 0, .int .i64 0])]) (next' := 8) rfl rfl rfl rfl rfl rfl rfl ?_
     refine GX.step0 (heap' := [(0, .box (TPrefix.c q1)), (1, .box [.own 5 6 0 c59b.l.length, .own 6 1 0 c59b.free.length, .int .i64 c59b.root, .int .i64 c59b.n]), (4, .box (TAct.c x7)), (6, .row 1 3 (c59b.free.map c_i64)), (5, .row 6 69 (c59b.l.map TNode.c)), (7, .box (TEntry.c c77a))]) (next' := 8) rfl rfl rfl rfl rfl ?_
     refine GX.m rfl ?_
     refine GX.done ?_
     refine WK.sr mixed ?_
     refine GX.m rfl ?_
     refine GX.q (.ptr 4 4) ?_
     refine GX.q (.int .u32 x7.A) ?_
     generalize hc84 : F19_crossroadsref06_Find c66a x7.A = c84 at hL_58
     obtain ⟨c84a, c84b⟩ := c84; try dsimp only at hL_58
     refine GX.callp (r := .tup [.agg [.int .u32 c84a.P.A, .int .i64 c84a.P.N, .int .i64 c84a.V], .bool c84b]) rfl rfl rfl (f19_ok c66a x7.A _ hc84) rfl rfl ?_
     refine GX.m rfl ?_
     refine GX.q (.agg [.int .u32 c84a.P.A, .int .i64 c84a.P.N, .int .i64 c84a.V]) ?_
     refine GX.q (.bool c84b) ?_
     refine GX.step (v' := .ptr 8 0) (heap' := [(0, .box (TPrefix.c q1)), (1, .box [.own 5 6 0 c59b.l.length, .own 6 1 0 c59b.free.length, .int .i64 c59b.root, .int .i64 c59b.n]), (4, .box (TAct.c x7)), (6, .row 1 3 (c59b.free.map c_i64)), (5, .row 6 69 (c59b.l.map TNode.c)), (7, .box (TEntry.c c77a)), (8, .box [.int .u32 0, .int .i64 0, .int .i64 0])]) (next' := 9) rfl rfl rfl rfl rfl rfl rfl ?_
     refine GX.step0 (heap' := [(0, .box (TPrefix.c q1)), (1, .box [.own 5 6 0 c59b.l.length, .own 6 1 0 c59b.free.length, .int .i64 c59b.root, .int .i64 c59b.n]), (4, .box (TAct.c x7)), (6, .row 1 3 (c59b.free.map c_i64)), (5, .row 6 69 (c59b.l.map TNode.c)), (7, .box (TEntry.c c77a)), (8, .box (TEntry.c c84a))]) (next' := 9) rfl rfl rfl rfl rfl ?_
     refine GX.m rfl ?_
     refine GX.done ?_
     refine WK.sr mixed ?_
     refine GX.q (.agg (TEntry.c c77a)) ?_
     refine GX.q (.agg (TEntry.c c84a)) ?_
     refine GX.q (.bool (!(decide (c77a.P.A = c84a.P.A) && (decide (c77a.P.N = c84a.P.N) && (decide (c77a.V = c84a.V) && true))))) ?_
     refine GX.m rfl ?_
     rcases bool_two (decide (c77a.P.A = c84a.P.A) && (decide (c77a.P.N = c84a.P.N) && (decide (c77a.V = c84a.V) && true))) with hb78 | hb78
     ·rw [hb78]; try simp only [hb78, bb] at hL_58
      iterate 3 refine GX.skip rfl rfl ?_
      refine GX.q (.bool true) ?_
      refine GX.m rfl ?_
      iterate 5 refine GX.skip rfl rfl ?_
      refine GX.q (.bool true) ?_
      refine GX.done ?_
      refine WK.condT rfl ?_
      refine WK.sr mixed ?_
      refine GX.m rfl ?_
      refine GX.done ?_
      refine WK.ret ?_
      refine QF.ret ?_
      refine QF.ret (hQ_58 _ _ ?_)
      subst hL_58
      try dsimp only at hR
      obtain rfl := Option.some.inj hR
      exact RetQ.fr [] (.inr rfl) rfl rfl rfl rfl
     ·rw [hb78]; try simp only [hb78, bb] at hL_58
      iterate 2 refine GX.m rfl ?_
      iterate 2 refine GX.q (.bool (!(c77b == c84b))) ?_
      refine GX.m rfl ?_
      rcases bool_two (c77b == c84b) with hb79 | hb79
      ·rw [hb79]; try simp only [hb79, bb] at hL_58
       iterate 5 refine GX.skip rfl rfl ?_
       refine GX.q (.bool true) ?_
       refine GX.done ?_
       refine WK.condT rfl ?_
       refine WK.sr mixed ?_
       refine GX.m rfl ?_
       refine GX.done ?_
       refine WK.ret ?_
       refine QF.ret ?_
       refine QF.ret (hQ_58 _ _ ?_)
       subst hL_58
       try dsimp only at hR
       obtain rfl := Option.some.inj hR
       exact RetQ.fr [] (.inr rfl) rfl rfl rfl rfl
      ·rw [hb79]; try simp only [hb79, bb] at hL_58
       refine GX.m rfl ?_
       generalize hc97 : F15_trie_Trie_Len c59b = c97 at hL_58
       try dsimp only at hL_58
       refine GX.callx (r' := .int .i64 c97) (heap' := [(0, .box (TPrefix.c q1)), (1, .box [.own 5 6 0 c59b.l.length, .own 6 1 0 c59b.free.length, .int .i64 c59b.root, .int .i64 c59b.n]), (4, .box (TAct.c x7)), (6, .row 1 3 (c59b.free.map c_i64)), (5, .row 6 69 (c59b.l.map TNode.c)), (7, .box (TEntry.c c77a)), (8, .box (TEntry.c c84a))]) (next' := 9) [1, 5, 6] [] rfl rfl rfl rfl rfl rfl (f15_ok c59b _ hc97) (.inl rfl) rfl rfl rfl ?_
       refine GX.m rfl ?_
       refine GX.pure (v' := .int .i64 (c66a.length : Int)) rfl rfl rfl rfl (len_map _ _) ?_
       iterate 2 refine GX.q (.bool (!decide (c97 = (c66a.length : Int)))) ?_
       refine GX.done ?_
       rcases bool_two (decide (c97 = (c66a.length : Int))) with hb81 | hb81
       ·rw [hb81]; try simp only [hb81, bb] at hL_58
        refine WK.condT rfl ?_
        refine WK.sr mixed ?_
        refine GX.m rfl ?_
        refine GX.done ?_
        refine WK.ret ?_
        refine QF.ret ?_
        refine QF.ret (hQ_58 _ _ ?_)
        subst hL_58
        try dsimp only at hR
        obtain rfl := Option.some.inj hR
        exact RetQ.fr [] (.inr rfl) rfl rfl rfl rfl
       ·rw [hb81]; try simp only [hb81, bb] at hL_58
        refine WK.condF rfl ?_
        refine WK.skip ?_
        refine WK.nil (QF.normal (hK73 _ ?_))
        refine WK.regx mixed ?_
        refine GX.m rfl ?_
        refine GX.pure (v' := .int .i64 ((i7 + 1 : Nat) : Int)) rfl rfl rfl rfl (congrArg (PVal.int .i64) (wrap_up hlt58 hlen_58)) ?_
        refine GX.m rfl ?_
        refine GX.done ?_
        refine WK.nil (QF.normal ?_)
        exact hagain_58 _ (script0.length - (i7 + 1)) ⟨[(0, .ro 5 (script0.map TAct.c)), (3, .ptr 0 0), (5, .ptr 1 0), (6, .ro 3 (c66a.map TEntry.c)), (7, .int .i64 ((i7 + 1) : Int))], [(0, .box (TPrefix.c q1)), (1, .box [.own 2 6 0 c59b.l.length, .own 3 1 0 c59b.free.length, .int .i64 c59b.root, .int .i64 c59b.n]), (2, .row 6 69 (c59b.l.map TNode.c)), (3, .row 1 3 (c59b.free.map c_i64))], 4⟩ (by omega) (Conv.keep [0, 1, 5, 6] [] [0, 3, 5, 6, 7] rfl rfl (viewE_cons rfl rfl (viewE_cons rfl rfl (viewE_cons rfl rfl (viewE_cons rfl rfl (viewE_cons rfl rfl viewE_nil))))) rfl rfl) ⟨i7 + 1, c66a, c59b.root, c59b.n, c59b.l, c59b.free, (by omega), rfl, hL_58, rfl⟩
   ·rw [hb74]; try simp only [hb74, bb] at hL_58
    refine WK.condT rfl ?_
    refine WK.sr mixed ?_
    refine GX.m rfl ?_
    refine GX.q (.ptr 4 1) ?_
    refine GX.q (.agg [.int .u32 x7.P.A, .int .i64 x7.P.N]) ?_
    generalize hc42 : F16_trie_Trie_Drop (⟨row2, row3, t_2_5, t_3_5⟩ : TTrie) x7.P = c42 at hL_58
    rcases c42 with _ | c42
    ·try dsimp only at hL_58
     subst hL_58
     try dsimp only at hR
     cases hR
    try dsimp only at hL_58
    obtain ⟨c42a, c42b⟩ := c42; try dsimp only at hL_58
    refine GX.callx (r' := .bool c42a) (heap' := [(0, .box (TPrefix.c q1)), (1, .box [.own 5 6 0 c42b.l.length, .own 6 1 0 c42b.free.length, .int .i64 c42b.root, .int .i64 c42b.n]), (4, .box (TAct.c x7)), (6, .row 1 3 (c42b.free.map c_i64)), (5, .row 6 69 (c42b.l.map TNode.c))]) (next' := 7) [1, 2, 3] [] rfl rfl rfl rfl rfl rfl (f16_ok (⟨row2, row3, t_2_5, t_3_5⟩ : TTrie) x7.P _ hc42) (.inl rfl) rfl rfl rfl ?_
    refine GX.m rfl ?_
    refine GX.done ?_
    refine WK.sr mixed ?_
    refine GX.m rfl ?_
    refine GX.q (.ptr 4 1) ?_
    refine GX.q (.agg [.int .u32 x7.P.A, .int .i64 x7.P.N]) ?_
    generalize hc47 : F17_crossroadsref06_Drop m6 x7.P = c47 at hL_58
    rcases c47 with _ | c47
    ·try dsimp only at hL_58
     subst hL_58
     try dsimp only at hR
     cases hR
    try dsimp only at hL_58
    obtain ⟨c47a, c47b⟩ := c47; try dsimp only at hL_58
    refine GX.callp (r := .tup [.ro 3 (c47a.map TEntry.c), .bool c47b]) rfl rfl rfl (f17_ok m6 x7.P _ hc47) rfl rfl ?_
    refine GX.m rfl ?_
    refine GX.q (.ro 3 (c47a.map TEntry.c)) ?_
    refine GX.q (.bool c47b) ?_
    iterate 2 refine GX.m rfl ?_
    refine GX.done ?_
    refine WK.sr mixed ?_
    iterate 2 refine GX.m rfl ?_
    refine GX.done ?_
    refine WK.sr mixed ?_
    iterate 2 refine GX.m rfl ?_
    refine GX.q (.bool (!(c42a == c47b))) ?_
    refine GX.done ?_
    rcases bool_two (c42a == c47b) with hb83 | hb83
    ·rw [hb83]; try simp only [hb83, bb] at hL_58
     refine WK.condT rfl ?_
     refine WK.sr mixed ?_
     refine GX.m rfl ?_
     refine GX.done ?_
     refine WK.ret ?_
     refine QF.ret ?_
     refine QF.ret (hQ_58 _ _ ?_)
     subst hL_58
     try dsimp only at hR
     obtain rfl := Option.some.inj hR
     exact RetQ.fr [] (.inr rfl) rfl rfl rfl rfl
    ·rw [hb83]; try simp only [hb83, bb] at hL_58
     refine WK.condF rfl ?_
     refine WK.skip ?_
     refine WK.sr mixed ?_
     refine GX.m rfl ?_
     refine GX.q (.ptr 4 4) ?_
     refine GX.q (.int .u32 x7.A) ?_
     generalize hc77 : F11_trie_Trie_Find c42b x7.A = c77 at hL_58
     rcases c77 with _ | c77
     ·try dsimp only at hL_58
      subst hL_58
      try dsimp only at hR
      cases hR
     try dsimp only at hL_58
     obtain ⟨c77a, c77b⟩ := c77; try dsimp only at hL_58
     refine GX.callx (r' := .tup [.agg (TEntry.c c77a), .bool c77b]) (heap' := [(0, .box (TPrefix.c q1)), (1, .box [.own 5 6 0 c42b.l.length, .own 6 1 0 c42b.free.length, .int .i64 c42b.root, .int .i64 c42b.n]), (4, .box (TAct.c x7)), (6, .row 1 3 (c42b.free.map c_i64)), (5, .row 6 69 (c42b.l.map TNode.c))]) (next' := 7) [1, 5, 6] [] rfl rfl rfl rfl rfl rfl (f11_ok c42b x7.A _ hc77) (.inl rfl) rfl rfl rfl ?_
     refine GX.m rfl ?_
     refine GX.q (.agg (TEntry.c c77a)) ?_
     refine GX.q (.bool c77b) ?_
     refine GX.step (v' := .ptr 7 0) (heap' := [(0, .box (TPrefix.c q1)), (1, .box [.own 5 6 0 c42b.l.length, .own 6 1 0 c42b.free.length, .int .i64 c42b.root, .int .i64 c42b.n]), (4, .box (TAct.c x7)), (6, .row 1 3 (c42b.free.map c_i64)), (5, .row 6 69 (c42b.l.map TNode.c)), (7, .box [.int .u32 0, .int .i64 0, .int .i64 0])]) (next' := 8) rfl rfl rfl rfl rfl rfl rfl ?_
     refine GX.step0 (heap' := [(0, .box (TPrefix.c q1)), (1, .box [.own 5 6 0 c42b.l.length, .own 6 1 0 c42b.free.length, .int .i64 c42b.root, .int .i64 c42b.n]), (4, .box (TAct.c x7)), (6, .row 1 3 (c42b.free.map c_i64)), (5, .row 6 69 (c42b.l.map TNode.c)), (7, .box (TEntry.c c77a))]) (next' := 8) rfl rfl rfl rfl rfl ?_
     refine GX.m rfl ?_
     refine GX.done ?_
     refine WK.sr mixed ?_
     refine GX.m rfl ?_
     refine GX.q (.ptr 4 4) ?_
     refine GX.q (.int .u32 x7.A) ?_
     generalize hc84 : F19_crossroadsref06_Find c47a x7.A = c84 at hL_58
     obtain ⟨c84a, c84b⟩ := c84; try dsimp only at hL_58
     refine GX.callp (r := .tup [.agg [.int .u32 c84a.P.A, .int .i64 c84a.P.N, .int .i64 c84a.V], .bool c84b]) rfl rfl rfl (f19_ok c47a x7.A _ hc84) rfl rfl ?_
     refine GX.m rfl ?_
     refine GX.q (.agg [.int .u32 c84a.P.A, .int .i64 c84a.P.N, .int .i64 c84a.V]) ?_
     refine GX.q (.bool c84b) ?_
     refine GX.step (v' := .ptr 8 0) (heap' := [(0, .box (TPrefix.c q1)), (1, .box [.own 5 6 0 c42b.l.length, .own 6 1 0 c42b.free.length, .int .i64 c42b.root, .int .i64 c42b.n]), (4, .box (TAct.c x7)), (6, .row 1 3 (c42b.free.map c_i64)), (5, .row 6 69 (c42b.l.map TNode.c)), (7, .box (TEntry.c c77a)), (8, .box [.int .u32 0, .int .i64 0, .int .i64 0])]) (next' := 9) rfl rfl rfl rfl rfl rfl rfl ?_
     refine GX.step0 (heap' := [(0, .box (TPrefix.c q1)), (1, .box [.own 5 6 0 c42b.l.length, .own 6 1 0 c42b.free.length, .int .i64 c42b.root, .int .i64 c42b.n]), (4, .box (TAct.c x7)), (6, .row 1 3 (c42b.free.map c_i64)), (5, .row 6 69 (c42b.l.map TNode.c)), (7, .box (TEntry.c c77a)), (8, .box (TEntry.c c84a))]) (next' := 9) rfl rfl rfl rfl rfl ?_
     refine GX.m rfl ?_
     refine GX.done ?_
     refine WK.sr mixed ?_
     refine GX.q (.agg (TEntry.c c77a)) ?_
     refine GX.q (.agg (TEntry.c c84a)) ?_
     refine GX.q (.bool (!(decide (c77a.P.A = c84a.P.A) && (decide (c77a.P.N = c84a.P.N) && (decide (c77a.V = c84a.V) && true))))) ?_
     refine GX.m rfl ?_
     rcases bool_two (decide (c77a.P.A = c84a.P.A) && (decide (c77a.P.N = c84a.P.N) && (decide (c77a.V = c84a.V) && true))) with hb85 | hb85
     ·rw [hb85]; try simp only [hb85, bb] at hL_58
      iterate 3 refine GX.skip rfl rfl ?_
      refine GX.q (.bool true) ?_
      refine GX.m rfl ?_
      iterate 5 refine GX.skip rfl rfl ?_
      refine GX.q (.bool true) ?_
      refine GX.done ?_
      refine WK.condT rfl ?_
      refine WK.sr mixed ?_
      refine GX.m rfl ?_
      refine GX.done ?_
      refine WK.ret ?_
      refine QF.ret ?_
      refine QF.ret (hQ_58 _ _ ?_)
      subst hL_58
      try dsimp only at hR
      obtain rfl := Option.some.inj hR
      exact RetQ.fr [] (.inr rfl) rfl rfl rfl rfl
     ·rw [hb85]; try simp only [hb85, bb] at hL_58
      iterate 2 refine GX.m rfl ?_
      iterate 2 refine GX.q (.bool (!(c77b == c84b))) ?_
      refine GX.m rfl ?_
      rcases bool_two (c77b == c84b) with hb86 | hb86
      ·rw [hb86]; try simp only [hb86, bb] at hL_58
       iterate 5 refine GX.skip rfl rfl ?_
       refine GX.q (.bool true) ?_
       refine GX.done ?_
       refine WK.condT rfl ?_
       refine WK.sr mixed ?_
       refine GX.m rfl ?_
       refine GX.done ?_
       refine WK.ret ?_
       refine QF.ret ?_
       refine QF.ret (hQ_58 _ _ ?_)
       subst hL_58
       try dsimp only at hR
       obtain rfl := Option.some.inj hR
       exact RetQ.fr [] (.inr rfl) rfl rfl rfl rfl
      ·rw [hb86]; try simp only [hb86, bb] at hL_58
       refine GX.m rfl ?_
       generalize hc97 : F15_trie_Trie_Len c42b = c97 at hL_58
       try dsimp only at hL_58
       refine GX.callx (r' := .int .i64 c97) (heap' := [(0, .box (TPrefix.c q1)), (1, .box [.own 5 6 0 c42b.l.length, .own 6 1 0 c42b.free.length, .int .i64 c42b.root, .int .i64 c42b.n]), (4, .box (TAct.c x7)), (6, .row 1 3 (c42b.free.map c_i64)), (5, .row 6 69 (c42b.l.map TNode.c)), (7, .box (TEntry.c c77a)), (8, .box (TEntry.c c84a))]) (next' := 9) [1, 5, 6] [] rfl rfl rfl rfl rfl rfl (f15_ok c42b _ hc97) (.inl rfl) rfl rfl rfl ?_
       refine GX.m rfl ?_
       refine GX.pure (v' := .int .i64 (c47a.length : Int)) rfl rfl rfl rfl (len_map _ _) ?_
       iterate 2 refine GX.q (.bool (!decide (c97 = (c47a.length : Int)))) ?_
       refine GX.done ?_
       rcases bool_two (decide (c97 = (c47a.length : Int))) with hb88 | hb88
       ·rw [hb88]; try simp only [hb88, bb] at hL_58
        refine WK.condT rfl ?_
        refine WK.sr mixed ?_
        refine GX.m rfl ?_
        refine GX.done ?_
        refine WK.ret ?_
        refine QF.ret ?_
        refine QF.ret (hQ_58 _ _ ?_)
        subst hL_58
        try dsimp only at hR
        obtain rfl := Option.some.inj hR
        exact RetQ.fr [] (.inr rfl) rfl rfl rfl rfl
       ·rw [hb88]; try simp only [hb88, bb] at hL_58
        refine WK.condF rfl ?_
        refine WK.skip ?_
        refine WK.nil (QF.normal (hK73 _ ?_))
        refine WK.regx mixed ?_
        refine GX.m rfl ?_
        refine GX.pure (v' := .int .i64 ((i7 + 1 : Nat) : Int)) rfl rfl rfl rfl (congrArg (PVal.int .i64) (wrap_up hlt58 hlen_58)) ?_
        refine GX.m rfl ?_
        refine GX.done ?_
        refine WK.nil (QF.normal ?_)
        exact hagain_58 _ (script0.length - (i7 + 1)) ⟨[(0, .ro 5 (script0.map TAct.c)), (3, .ptr 0 0), (5, .ptr 1 0), (6, .ro 3 (c47a.map TEntry.c)), (7, .int .i64 ((i7 + 1) : Int))], [(0, .box (TPrefix.c q1)), (1, .box [.own 2 6 0 c42b.l.length, .own 3 1 0 c42b.free.length, .int .i64 c42b.root, .int .i64 c42b.n]), (2, .row 6 69 (c42b.l.map TNode.c)), (3, .row 1 3 (c42b.free.map c_i64))], 4⟩ (by omega) (Conv.keep [0, 1, 5, 6] [] [0, 3, 5, 6, 7] rfl rfl (viewE_cons rfl rfl (viewE_cons rfl rfl (viewE_cons rfl rfl (viewE_cons rfl rfl (viewE_cons rfl rfl viewE_nil))))) rfl rfl) ⟨i7 + 1, c47a, c42b.root, c42b.n, c42b.l, c42b.free, (by omega), rfl, hL_58, rfl⟩

end Go.Proofs.Ytakallenldpkiaa.Abs
