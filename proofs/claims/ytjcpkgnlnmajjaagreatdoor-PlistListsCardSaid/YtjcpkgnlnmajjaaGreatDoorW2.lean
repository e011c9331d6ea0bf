/- The functions walked: each computes its Lean function (printed by this work's own program gen.py). -/
import Derived.Test.YtjcpkgnlnmajjaaGreatDoorSb
import Derived.Test.YtjcpkgnlnmajjaaGreatDoorW1
set_option linter.unusedVariables false
set_option linter.unusedSimpArgs false
set_option maxRecDepth 10000
set_option maxHeartbeats 4000000
namespace Go.Proofs.YtjcpkgnlnmajjaaGreatDoor.Abs
open Go

theorem f26_ok (l0 : List TRule) (seq1 : Int) (R : (List TRule) × Int) (hR : F26_crossroadsref07_Drop l0 seq1 = some R) : FnOk Tryz.prog 26 [.ro 6 (l0.map TRule.c), .int .i64 seq1] [] 0 (.tup [.ro 6 (R.1.map TRule.c), .int .i64 R.2]) [] 0 := by
 refine FnOk.wk i26 rfl rfl ?_
 unfold F26_crossroadsref07_Drop at hR
 try dsimp only at hR
 change WK _ _ _ [ac26] _ ⟨[(0, .ro 6 (l0.map TRule.c)), (1, .int .i64 seq1)], [], 0⟩
 unfold ac26
 refine WK.sr mixed ?_
 iterate 2 refine GX.m rfl ?_
 refine GX.done ?_
 refine WK.sr mixed ?_
 refine GX.step (v' := .own 0 6 0 (([] : List TRule)).length) (heap' := [(0, .row 6 34 (([] : List TRule).map TRule.c))]) (next' := 1) rfl rfl rfl rfl rfl rfl rfl ?_
 refine GX.m rfl ?_
 refine GX.done ?_
 refine WK.seq ?_
 refine WK.sr mixed ?_
 refine GX.m rfl ?_
 refine GX.done ?_
 refine WK.len (t := 0) rfl (by simp) (fun hlen_6 => ?_)
 rw [List.length_map] at hlen_6
 generalize hZ_6 : F26_crossroadsref07_Drop_l1 seq1 ([] : List TRule) l0 = Z_6 at hR
 refine WK.forK (fun k s => ∃ (i7 : Nat) (out6 : List TRule), i7 ≤ l0.length ∧ k = l0.length - i7 ∧ F26_crossroadsref07_Drop_l1 seq1 out6 (l0.drop i7) = Z_6 ∧ s = ⟨[(0, .ro 6 (l0.map TRule.c)), (1, .int .i64 seq1), (6, .own 0 6 0 out6.length), (7, .int .i64 (i7 : Int))], [(0, .row 6 34 (out6.map TRule.c))], 1⟩) l0.length ⟨⟨[(0, .ro 6 (l0.map TRule.c)), (1, .int .i64 seq1), (6, .own 0 6 0 ([] : List TRule).length), (7, .int .i64 (0 : Int))], [(0, .row 6 34 (([] : List TRule).map TRule.c))], 1⟩, Conv.keep [0] [] [0, 1, 6, 7] rfl rfl (viewE_cons rfl rfl (viewE_cons rfl rfl (viewE_cons rfl rfl (viewE_cons rfl rfl viewE_nil)))) rfl rfl, 0, ([] : List TRule), (by omega), rfl, hZ_6, rfl⟩ ?_
 rintro _ _ ⟨i7, out6, hi_6, rfl, hL_6, rfl⟩ again_6 out_6 Q_6 hagain_6 hout_6 hQ_6
 refine WK.seq ?_
 refine WK.sr mixed ?_
 iterate 2 refine GX.m rfl ?_
 refine GX.pure (v' := .int .i64 (l0.length : Int)) rfl rfl rfl rfl (len_map _ _) ?_
 refine GX.q (.bool (decide ((i7 : Int) < (l0.length : Int)))) ?_
 refine GX.done ?_
 rcases bool_two (decide ((i7 : Int) < (l0.length : Int))) with hb7 | hb7
 ·rw [hb7]
  rw [drop_end hb7, F26_crossroadsref07_Drop_l1] at hL_6
  refine WK.condF rfl ?_
  refine WK.exit ?_
  refine QF.exit (hout_6 _ ?_)
  subst hL_6
  try dsimp only [cond_true, cond_false] at hR
  refine WK.seq ?_
  refine WK.sr mixed ?_
  refine GX.m rfl ?_
  refine GX.q (.int .i64 (out6.length : Int)) ?_
  refine GX.m rfl ?_
  refine GX.pure (v' := .int .i64 (l0.length : Int)) rfl rfl rfl rfl (len_map _ _) ?_
  refine GX.q (.bool (decide ((out6.length : Int) = (l0.length : Int)))) ?_
  refine GX.done ?_
  rcases bool_two (decide ((out6.length : Int) = (l0.length : Int))) with hb8 | hb8
  ·rw [hb8]; first | replace hR := cond_f hb8 hR | (try simp only [hb8, bb] at hR)
   refine WK.condF rfl ?_
   refine WK.skip ?_
   refine WK.sr mixed ?_
   iterate 3 refine GX.m rfl ?_
   refine GX.done ?_
   refine WK.ret ?_
   obtain rfl := Option.some.inj hR
   exact RetQ.fr [0] (.inr rfl) rfl rfl (viewGo_cons (view_rowT rfl rfl) (viewGo_cons rfl viewGo_nil)) rfl
  ·rw [hb8]; first | replace hR := cond_t hb8 hR | (try simp only [hb8, bb] at hR)
   refine WK.condT rfl ?_
   refine WK.sr mixed ?_
   iterate 2 refine GX.m rfl ?_
   refine GX.done ?_
   refine WK.ret ?_
   obtain rfl := Option.some.inj hR
   exact RetQ.frw [] (.inr rfl) rfl rfl rfl (.tup (.cons .nil .refl))
 ·rw [hb7]
  obtain ⟨x7, hx6, hd6, hlt6⟩ := drop_more hb7
  rw [hd6, F26_crossroadsref07_Drop_l1] at hL_6
  refine WK.condT rfl ?_
  refine WK.skip ?_
  refine WK.seq ?_
  refine WK.blockK (fun _ hK9 => ?_)
  refine WK.sr mixed ?_
  iterate 2 refine GX.m rfl ?_
  refine GX.idxT (c := TRule.c) (x := x7) rfl rfl rfl (Int.natCast_nonneg _) hx6 ?_
  refine GX.q (.rptr (TRule.c x7)) ?_
  refine GX.q (.int .i64 x7.Seq) ?_
  refine GX.m rfl ?_
  refine GX.q (.bool (!decide (x7.Seq = seq1))) ?_
  refine GX.done ?_
  rcases bool_two (decide (x7.Seq = seq1)) with hb10 | hb10
  ·rw [hb10]; try simp only [hb10, bb] at hL_6
   refine WK.condT rfl ?_
   refine WK.regx mixed ?_
   iterate 3 refine GX.m rfl ?_
   refine GX.idxT (c := TRule.c) (x := x7) rfl rfl rfl (Int.natCast_nonneg _) hx6 ?_
   refine GX.q (.agg (TRule.c x7)) ?_
   refine GX.step (v' := .own 1 6 0 (([x7] : List TRule)).length) (heap' := [(0, .row 6 34 (out6.map TRule.c)), (1, .row 6 34 (([x7] : List TRule).map TRule.c))]) (next' := 2) rfl rfl rfl rfl rfl rfl rfl ?_
   rcases bool_two (decide (out6.length < 1099511627776)) with hg11 | hg11
   ·simp only [hg11, bb] at hL_6
    try dsimp only at hL_6
    subst hL_6
    try dsimp only at hR
    cases hR
   simp only [hg11, bb] at hL_6
   have hg11_ := of_decide_eq_true hg11
   refine GX.appT (c := TRule.c) (L := out6) (X := ([x7] : List TRule)) (heap' := [(1, .row 6 34 (([x7] : List TRule).map TRule.c)), (2, .row 6 34 ((out6 ++ ([x7] : List TRule)).map TRule.c))]) (next' := 3) rfl rfl rfl rfl (elems_own rfl) (by ((try simp only [List.length_append, List.length_cons, List.length_nil, List.length_map, decide_eq_true_eq, decide_eq_false_iff_not] at *) <;> omega)) (by ((try simp only [List.length_append, List.length_cons, List.length_nil, List.length_map, decide_eq_true_eq, decide_eq_false_iff_not] at *) <;> omega)) rfl rfl rfl rfl ?_
   refine GX.m rfl ?_
   refine GX.done ?_
   refine WK.nil (QF.normal (hK9 _ ?_))
   refine WK.regx mixed ?_
   refine GX.m rfl ?_
   refine GX.pure (v' := .int .i64 ((i7 + 1 : Nat) : Int)) rfl rfl rfl rfl (congrArg (PVal.int .i64) (wrap_up hlt6 hlen_6)) ?_
   refine GX.m rfl ?_
   refine GX.done ?_
   refine WK.nil (QF.normal ?_)
   exact hagain_6 _ (l0.length - (i7 + 1)) ⟨[(0, .ro 6 (l0.map TRule.c)), (1, .int .i64 seq1), (6, .own 0 6 0 (out6 ++ ([x7] : List TRule)).length), (7, .int .i64 ((i7 + 1) : Int))], [(0, .row 6 34 ((out6 ++ ([x7] : List TRule)).map TRule.c))], 1⟩ (by omega) (Conv.keep [2] [] [0, 1, 6, 7] rfl rfl (viewE_cons rfl rfl (viewE_cons rfl rfl (viewE_cons rfl rfl (viewE_cons rfl rfl viewE_nil)))) rfl rfl) ⟨i7 + 1, (out6 ++ ([x7] : List TRule)), (by omega), rfl, hL_6, rfl⟩
  ·rw [hb10]; try simp only [hb10, bb] at hL_6
   refine WK.condF rfl ?_
   refine WK.skip ?_
   refine WK.nil (QF.normal (hK9 _ ?_))
   refine WK.regx mixed ?_
   refine GX.m rfl ?_
   refine GX.pure (v' := .int .i64 ((i7 + 1 : Nat) : Int)) rfl rfl rfl rfl (congrArg (PVal.int .i64) (wrap_up hlt6 hlen_6)) ?_
   refine GX.m rfl ?_
   refine GX.done ?_
   refine WK.nil (QF.normal ?_)
   exact hagain_6 _ (l0.length - (i7 + 1)) ⟨[(0, .ro 6 (l0.map TRule.c)), (1, .int .i64 seq1), (6, .own 0 6 0 out6.length), (7, .int .i64 ((i7 + 1) : Int))], [(0, .row 6 34 (out6.map TRule.c))], 1⟩ (by omega) (Conv.keep [0] [] [0, 1, 6, 7] rfl rfl (viewE_cons rfl rfl (viewE_cons rfl rfl (viewE_cons rfl rfl (viewE_cons rfl rfl viewE_nil)))) rfl rfl) ⟨i7 + 1, out6, (by omega), rfl, hL_6, rfl⟩

theorem f25_ok (l0 : List TRule) (x1 : TRule) (R : (List TRule) × Int) (hR : F25_crossroadsref07_Add l0 x1 = some R) : FnOk Tryz.prog 25 [.ro 6 (l0.map TRule.c), .agg (TRule.c x1)] [] 0 (.tup [.ro 6 (R.1.map TRule.c), .int .i64 R.2]) [] 0 := by
 refine FnOk.wk i25 rfl rfl ?_
 unfold F25_crossroadsref07_Add at hR
 try dsimp only at hR
 change WK _ _ _ [ac25] _ ⟨[(0, .ro 6 (l0.map TRule.c)), (1, .agg (TRule.c x1))], [], 0⟩
 unfold ac25
 refine WK.sr mixed ?_
 refine GX.step (v' := .ptr 0 0) (heap' := [(0, .box (TRule.c x1))]) (next' := 1) rfl rfl rfl rfl rfl rfl rfl ?_
 iterate 2 refine GX.m rfl ?_
 refine GX.done ?_
 refine WK.seq ?_
 refine WK.sr mixed ?_
 refine GX.q (.agg (TRule.c x1)) ?_
 generalize hc12 : F12_crossroadsref07_May x1 = c12 at hR
 try dsimp only at hR
 refine GX.callp (r := .bool c12) rfl rfl rfl (f12_ok x1 _ hc12) rfl rfl ?_
 refine GX.q (.bool (!c12)) ?_
 refine GX.done ?_
 rcases bool_two (c12) with hb1 | hb1
 ·rw [hb1]; first | replace hR := cond_f hb1 hR | (try simp only [hb1, bb] at hR)
  refine WK.condT rfl ?_
  refine WK.sr mixed ?_
  iterate 2 refine GX.m rfl ?_
  refine GX.done ?_
  refine WK.ret ?_
  obtain rfl := Option.some.inj hR
  exact RetQ.frw [] (.inr rfl) rfl rfl rfl (.tup (.cons .nil .refl))
 ·rw [hb1]; first | replace hR := cond_t hb1 hR | (try simp only [hb1, bb] at hR)
  refine WK.condF rfl ?_
  refine WK.skip ?_
  refine WK.sr mixed ?_
  refine GX.m rfl ?_
  refine GX.q (.ptr 0 0) ?_
  refine GX.q (.int .i64 x1.Seq) ?_
  generalize hc18 : F26_crossroadsref07_Drop l0 x1.Seq = c18 at hR
  rcases c18 with _ | c18
  ·try dsimp only at hR
   cases hR
  try dsimp only at hR
  obtain ⟨c18a, c18b⟩ := c18; try dsimp only at hR
  refine GX.callp (r := .tup [.ro 6 (c18a.map TRule.c), .int .i64 c18b]) rfl rfl rfl (f26_ok l0 x1.Seq _ hc18) rfl rfl ?_
  refine GX.m rfl ?_
  refine GX.q (.ro 6 (c18a.map TRule.c)) ?_
  refine GX.q (.int .i64 c18b) ?_
  iterate 2 refine GX.m rfl ?_
  refine GX.done ?_
  refine WK.seq ?_
  refine WK.sr mixed ?_
  refine GX.m rfl ?_
  refine GX.q (.bool (decide (c18b = 0))) ?_
  refine GX.done ?_
  rcases bool_two (decide (c18b = 0)) with hb2 | hb2
  ·rw [hb2]; first | replace hR := cond_f hb2 hR | (try simp only [hb2, bb] at hR)
   refine WK.condF rfl ?_
   refine WK.skip ?_
   refine WK.seq ?_
   refine WK.sr mixed ?_
   refine GX.m rfl ?_
   refine GX.pure (v' := .int .i64 (l0.length : Int)) rfl rfl rfl rfl (len_map _ _) ?_
   refine GX.q (.bool (decide (200 ≤ (l0.length : Int)))) ?_
   refine GX.done ?_
   rcases bool_two (decide (200 ≤ (l0.length : Int))) with hb3 | hb3
   ·rw [hb3]; first | replace hR := cond_f hb3 hR | (try simp only [hb3, bb] at hR)
    refine WK.condF rfl ?_
    refine WK.skip ?_
    refine WK.sr mixed ?_
    refine GX.step (v' := .own 1 6 0 (([] : List TRule)).length) (heap' := [(0, .box (TRule.c x1)), (1, .row 6 34 (([] : List TRule).map TRule.c))]) (next' := 2) rfl rfl rfl rfl rfl rfl rfl ?_
    refine GX.m rfl ?_
    refine GX.done ?_
    refine WK.sr mixed ?_
    refine GX.m rfl ?_
    refine GX.done ?_
    refine WK.seq ?_
    refine WK.sr mixed ?_
    refine GX.m rfl ?_
    refine GX.done ?_
    refine WK.len (t := 0) rfl (by simp) (fun hlen_16 => ?_)
    rw [List.length_map] at hlen_16
    generalize hZ_16 : F25_crossroadsref07_Add_l1 x1 false ([] : List TRule) l0 = Z_16 at hR
    refine WK.forK (fun k s => ∃ (i10 : Nat) (put9 : Bool) (out8 : List TRule), i10 ≤ l0.length ∧ k = l0.length - i10 ∧ F25_crossroadsref07_Add_l1 x1 put9 out8 (l0.drop i10) = Z_16 ∧ s = ⟨[(0, .ro 6 (l0.map TRule.c)), (3, .ptr 0 0), (8, .own 1 6 0 out8.length), (9, .bool put9), (10, .int .i64 (i10 : Int))], [(0, .box (TRule.c x1)), (1, .row 6 34 (out8.map TRule.c))], 2⟩) l0.length ⟨⟨[(0, .ro 6 (l0.map TRule.c)), (3, .ptr 0 0), (8, .own 1 6 0 ([] : List TRule).length), (9, .bool false), (10, .int .i64 (0 : Int))], [(0, .box (TRule.c x1)), (1, .row 6 34 (([] : List TRule).map TRule.c))], 2⟩, Conv.keep [0, 1] [] [0, 3, 8, 9, 10] rfl rfl (viewE_cons rfl rfl (viewE_cons rfl rfl (viewE_cons rfl rfl (viewE_cons rfl rfl (viewE_cons rfl rfl viewE_nil))))) rfl rfl, 0, false, ([] : List TRule), (by omega), rfl, hZ_16, rfl⟩ ?_
    rintro _ _ ⟨i10, put9, out8, hi_16, rfl, hL_16, rfl⟩ again_16 out_16 Q_16 hagain_16 hout_16 hQ_16
    refine WK.seq ?_
    refine WK.sr mixed ?_
    iterate 2 refine GX.m rfl ?_
    refine GX.pure (v' := .int .i64 (l0.length : Int)) rfl rfl rfl rfl (len_map _ _) ?_
    refine GX.q (.bool (decide ((i10 : Int) < (l0.length : Int)))) ?_
    refine GX.done ?_
    rcases bool_two (decide ((i10 : Int) < (l0.length : Int))) with hb17 | hb17
    ·rw [hb17]
     rw [drop_end hb17, F25_crossroadsref07_Add_l1] at hL_16
     refine WK.condF rfl ?_
     refine WK.exit ?_
     refine QF.exit (hout_16 _ ?_)
     subst hL_16
     try dsimp only [cond_true, cond_false] at hR
     refine WK.seq ?_
     refine WK.sr mixed ?_
     refine GX.m rfl ?_
     refine GX.q (.bool (!put9)) ?_
     refine GX.done ?_
     rcases bool_two (put9) with hb18 | hb18
     ·rw [hb18]; first | replace hR := cond_f hb18 hR | (try simp only [hb18, bb] at hR)
      refine WK.condT rfl ?_
      refine WK.regx mixed ?_
      refine GX.m rfl ?_
      refine GX.q (.agg (TRule.c x1)) ?_
      refine GX.step (v' := .own 2 6 0 (([x1] : List TRule)).length) (heap' := [(0, .box (TRule.c x1)), (1, .row 6 34 (out8.map TRule.c)), (2, .row 6 34 (([x1] : List TRule).map TRule.c))]) (next' := 3) rfl rfl rfl rfl rfl rfl rfl ?_
      rcases bool_two (decide (out8.length < 1099511627776)) with hg19 | hg19
      ·simp only [hg19, bb] at hR
       try dsimp only at hR
       cases hR
      simp only [hg19, bb] at hR
      have hg19_ := of_decide_eq_true hg19
      refine GX.appT (c := TRule.c) (L := out8) (X := ([x1] : List TRule)) (heap' := [(0, .box (TRule.c x1)), (2, .row 6 34 (([x1] : List TRule).map TRule.c)), (3, .row 6 34 ((out8 ++ ([x1] : List TRule)).map TRule.c))]) (next' := 4) rfl rfl rfl rfl (elems_own rfl) (by ((try simp only [List.length_append, List.length_cons, List.length_nil, List.length_map, decide_eq_true_eq, decide_eq_false_iff_not] at *) <;> omega)) (by ((try simp only [List.length_append, List.length_cons, List.length_nil, List.length_map, decide_eq_true_eq, decide_eq_false_iff_not] at *) <;> omega)) rfl rfl rfl rfl ?_
      refine GX.m rfl ?_
      refine GX.done ?_
      refine WK.sr mixed ?_
      iterate 3 refine GX.m rfl ?_
      refine GX.done ?_
      refine WK.ret ?_
      obtain rfl := Option.some.inj hR
      exact RetQ.fr [3] (.inr rfl) rfl rfl (viewGo_cons (view_rowT rfl rfl) (viewGo_cons rfl viewGo_nil)) rfl
     ·rw [hb18]; first | replace hR := cond_t hb18 hR | (try simp only [hb18, bb] at hR)
      refine WK.condF rfl ?_
      refine WK.skip ?_
      refine WK.sr mixed ?_
      iterate 3 refine GX.m rfl ?_
      refine GX.done ?_
      refine WK.ret ?_
      obtain rfl := Option.some.inj hR
      exact RetQ.fr [1] (.inr rfl) rfl rfl (viewGo_cons (view_rowT rfl rfl) (viewGo_cons rfl viewGo_nil)) rfl
    ·rw [hb17]
     obtain ⟨x10, hx16, hd16, hlt16⟩ := drop_more hb17
     rw [hd16, F25_crossroadsref07_Add_l1] at hL_16
     refine WK.condT rfl ?_
     refine WK.skip ?_
     refine WK.seq ?_
     refine WK.blockK (fun _ hK20 => ?_)
     iterate 2 refine WK.seq ?_
     refine WK.drawn mixed ?_
     refine RD.m rfl ?_
     refine RD.q (.bool (!put9)) ?_
     refine RD.m rfl ?_
     rcases bool_two (put9) with hb21 | hb21
     ·rw [hb21]; try simp only [hb21, bb] at hL_16
      iterate 2 refine RD.m rfl ?_
      refine RD.idxT (c := TRule.c) (x := x10) rfl rfl rfl (Int.natCast_nonneg _) hx16 ?_
      refine RD.q (.rptr (TRule.c x10)) ?_
      refine RD.q (.int .i64 x10.Seq) ?_
      refine RD.q (.ptr 0 0) ?_
      refine RD.q (.int .i64 x1.Seq) ?_
      iterate 2 refine RD.q (.bool (decide (x1.Seq < x10.Seq))) ?_
      refine RD.done rfl ?_
      rcases bool_two (decide (x1.Seq < x10.Seq)) with hb22 | hb22
      ·rw [hb22]; try simp only [hb22, bb] at hL_16
       refine WK.condF rfl ?_
       refine WK.skip ?_
       refine WK.regx mixed ?_
       iterate 3 refine GX.m rfl ?_
       refine GX.idxT (c := TRule.c) (x := x10) rfl rfl rfl (Int.natCast_nonneg _) hx16 ?_
       refine GX.q (.agg (TRule.c x10)) ?_
       refine GX.step (v' := .own 2 6 0 (([x10] : List TRule)).length) (heap' := [(0, .box (TRule.c x1)), (1, .row 6 34 (out8.map TRule.c)), (2, .row 6 34 (([x10] : List TRule).map TRule.c))]) (next' := 3) rfl rfl rfl rfl rfl rfl rfl ?_
       rcases bool_two (decide (out8.length < 1099511627776)) with hg23 | hg23
       ·simp only [hg23, bb] at hL_16
        try dsimp only at hL_16
        subst hL_16
        try dsimp only at hR
        cases hR
       simp only [hg23, bb] at hL_16
       have hg23_ := of_decide_eq_true hg23
       refine GX.appT (c := TRule.c) (L := out8) (X := ([x10] : List TRule)) (heap' := [(0, .box (TRule.c x1)), (2, .row 6 34 (([x10] : List TRule).map TRule.c)), (3, .row 6 34 ((out8 ++ ([x10] : List TRule)).map TRule.c))]) (next' := 4) rfl rfl rfl rfl (elems_own rfl) (by ((try simp only [List.length_append, List.length_cons, List.length_nil, List.length_map, decide_eq_true_eq, decide_eq_false_iff_not] at *) <;> omega)) (by ((try simp only [List.length_append, List.length_cons, List.length_nil, List.length_map, decide_eq_true_eq, decide_eq_false_iff_not] at *) <;> omega)) rfl rfl rfl rfl ?_
       refine GX.m rfl ?_
       refine GX.done ?_
       refine WK.nil (QF.normal (hK20 _ ?_))
       refine WK.regx mixed ?_
       refine GX.m rfl ?_
       refine GX.pure (v' := .int .i64 ((i10 + 1 : Nat) : Int)) rfl rfl rfl rfl (congrArg (PVal.int .i64) (wrap_up hlt16 hlen_16)) ?_
       refine GX.m rfl ?_
       refine GX.done ?_
       refine WK.nil (QF.normal ?_)
       exact hagain_16 _ (l0.length - (i10 + 1)) ⟨[(0, .ro 6 (l0.map TRule.c)), (3, .ptr 0 0), (8, .own 1 6 0 (out8 ++ ([x10] : List TRule)).length), (9, .bool false), (10, .int .i64 ((i10 + 1) : Int))], [(0, .box (TRule.c x1)), (1, .row 6 34 ((out8 ++ ([x10] : List TRule)).map TRule.c))], 2⟩ (by omega) (Conv.keep [0, 3] [] [0, 3, 8, 9, 10] rfl rfl (viewE_cons rfl rfl (viewE_cons rfl rfl (viewE_cons rfl rfl (viewE_cons rfl rfl (viewE_cons rfl rfl viewE_nil))))) rfl rfl) ⟨i10 + 1, false, (out8 ++ ([x10] : List TRule)), (by omega), rfl, hL_16, rfl⟩
      ·rw [hb22]; try simp only [hb22, bb] at hL_16
       refine WK.condT rfl ?_
       refine WK.sr mixed ?_
       refine GX.m rfl ?_
       refine GX.q (.agg (TRule.c x1)) ?_
       refine GX.step (v' := .own 2 6 0 (([x1] : List TRule)).length) (heap' := [(0, .box (TRule.c x1)), (1, .row 6 34 (out8.map TRule.c)), (2, .row 6 34 (([x1] : List TRule).map TRule.c))]) (next' := 3) rfl rfl rfl rfl rfl rfl rfl ?_
       rcases bool_two (decide (out8.length < 1099511627776)) with hg24 | hg24
       ·simp only [hg24, bb] at hL_16
        try dsimp only at hL_16
        subst hL_16
        try dsimp only at hR
        cases hR
       simp only [hg24, bb] at hL_16
       have hg24_ := of_decide_eq_true hg24
       refine GX.appT (c := TRule.c) (L := out8) (X := ([x1] : List TRule)) (heap' := [(0, .box (TRule.c x1)), (2, .row 6 34 (([x1] : List TRule).map TRule.c)), (3, .row 6 34 ((out8 ++ ([x1] : List TRule)).map TRule.c))]) (next' := 4) rfl rfl rfl rfl (elems_own rfl) (by ((try simp only [List.length_append, List.length_cons, List.length_nil, List.length_map, decide_eq_true_eq, decide_eq_false_iff_not] at *) <;> omega)) (by ((try simp only [List.length_append, List.length_cons, List.length_nil, List.length_map, decide_eq_true_eq, decide_eq_false_iff_not] at *) <;> omega)) rfl rfl rfl rfl ?_
       refine GX.m rfl ?_
       refine GX.done ?_
       refine WK.regx mixed ?_
       refine GX.m rfl ?_
       refine GX.done ?_
       refine WK.regx mixed ?_
       iterate 3 refine GX.m rfl ?_
       refine GX.idxT (c := TRule.c) (x := x10) rfl rfl rfl (Int.natCast_nonneg _) hx16 ?_
       refine GX.q (.agg (TRule.c x10)) ?_
       refine GX.step (v' := .own 4 6 0 (([x10] : List TRule)).length) (heap' := [(0, .box (TRule.c x1)), (2, .row 6 34 (([x1] : List TRule).map TRule.c)), (3, .row 6 34 ((out8 ++ ([x1] : List TRule)).map TRule.c)), (4, .row 6 34 (([x10] : List TRule).map TRule.c))]) (next' := 5) rfl rfl rfl rfl rfl rfl rfl ?_
       rcases bool_two (decide ((out8 ++ ([x1] : List TRule)).length < 1099511627776)) with hg25 | hg25
       ·simp only [hg25, bb] at hL_16
        try dsimp only at hL_16
        subst hL_16
        try dsimp only at hR
        cases hR
       simp only [hg25, bb] at hL_16
       have hg25_ := of_decide_eq_true hg25
       refine GX.appT (c := TRule.c) (L := (out8 ++ ([x1] : List TRule))) (X := ([x10] : List TRule)) (heap' := [(0, .box (TRule.c x1)), (2, .row 6 34 (([x1] : List TRule).map TRule.c)), (4, .row 6 34 (([x10] : List TRule).map TRule.c)), (5, .row 6 34 (((out8 ++ ([x1] : List TRule)) ++ ([x10] : List TRule)).map TRule.c))]) (next' := 6) rfl rfl rfl rfl (elems_own rfl) (by ((try simp only [List.length_append, List.length_cons, List.length_nil, List.length_map, decide_eq_true_eq, decide_eq_false_iff_not] at *) <;> omega)) (by ((try simp only [List.length_append, List.length_cons, List.length_nil, List.length_map, decide_eq_true_eq, decide_eq_false_iff_not] at *) <;> omega)) rfl rfl rfl rfl ?_
       refine GX.m rfl ?_
       refine GX.done ?_
       refine WK.nil (QF.normal (hK20 _ ?_))
       refine WK.regx mixed ?_
       refine GX.m rfl ?_
       refine GX.pure (v' := .int .i64 ((i10 + 1 : Nat) : Int)) rfl rfl rfl rfl (congrArg (PVal.int .i64) (wrap_up hlt16 hlen_16)) ?_
       refine GX.m rfl ?_
       refine GX.done ?_
       refine WK.nil (QF.normal ?_)
       exact hagain_16 _ (l0.length - (i10 + 1)) ⟨[(0, .ro 6 (l0.map TRule.c)), (3, .ptr 0 0), (8, .own 1 6 0 ((out8 ++ ([x1] : List TRule)) ++ ([x10] : List TRule)).length), (9, .bool true), (10, .int .i64 ((i10 + 1) : Int))], [(0, .box (TRule.c x1)), (1, .row 6 34 (((out8 ++ ([x1] : List TRule)) ++ ([x10] : List TRule)).map TRule.c))], 2⟩ (by omega) (Conv.keep [0, 5] [] [0, 3, 8, 9, 10] rfl rfl (viewE_cons rfl rfl (viewE_cons rfl rfl (viewE_cons rfl rfl (viewE_cons rfl rfl (viewE_cons rfl rfl viewE_nil))))) rfl rfl) ⟨i10 + 1, true, ((out8 ++ ([x1] : List TRule)) ++ ([x10] : List TRule)), (by omega), rfl, hL_16, rfl⟩
     ·rw [hb21]; try simp only [hb21, bb] at hL_16
      iterate 8 refine RD.skip rfl rfl ?_
      refine RD.q (.bool false) ?_
      refine RD.done rfl ?_
      refine WK.condF rfl ?_
      refine WK.skip ?_
      refine WK.regx mixed ?_
      iterate 3 refine GX.m rfl ?_
      refine GX.idxT (c := TRule.c) (x := x10) rfl rfl rfl (Int.natCast_nonneg _) hx16 ?_
      refine GX.q (.agg (TRule.c x10)) ?_
      refine GX.step (v' := .own 2 6 0 (([x10] : List TRule)).length) (heap' := [(0, .box (TRule.c x1)), (1, .row 6 34 (out8.map TRule.c)), (2, .row 6 34 (([x10] : List TRule).map TRule.c))]) (next' := 3) rfl rfl rfl rfl rfl rfl rfl ?_
      rcases bool_two (decide (out8.length < 1099511627776)) with hg26 | hg26
      ·simp only [hg26, bb] at hL_16
       try dsimp only at hL_16
       subst hL_16
       try dsimp only at hR
       cases hR
      simp only [hg26, bb] at hL_16
      have hg26_ := of_decide_eq_true hg26
      refine GX.appT (c := TRule.c) (L := out8) (X := ([x10] : List TRule)) (heap' := [(0, .box (TRule.c x1)), (2, .row 6 34 (([x10] : List TRule).map TRule.c)), (3, .row 6 34 ((out8 ++ ([x10] : List TRule)).map TRule.c))]) (next' := 4) rfl rfl rfl rfl (elems_own rfl) (by ((try simp only [List.length_append, List.length_cons, List.length_nil, List.length_map, decide_eq_true_eq, decide_eq_false_iff_not] at *) <;> omega)) (by ((try simp only [List.length_append, List.length_cons, List.length_nil, List.length_map, decide_eq_true_eq, decide_eq_false_iff_not] at *) <;> omega)) rfl rfl rfl rfl ?_
      refine GX.m rfl ?_
      refine GX.done ?_
      refine WK.nil (QF.normal (hK20 _ ?_))
      refine WK.regx mixed ?_
      refine GX.m rfl ?_
      refine GX.pure (v' := .int .i64 ((i10 + 1 : Nat) : Int)) rfl rfl rfl rfl (congrArg (PVal.int .i64) (wrap_up hlt16 hlen_16)) ?_
      refine GX.m rfl ?_
      refine GX.done ?_
      refine WK.nil (QF.normal ?_)
      exact hagain_16 _ (l0.length - (i10 + 1)) ⟨[(0, .ro 6 (l0.map TRule.c)), (3, .ptr 0 0), (8, .own 1 6 0 (out8 ++ ([x10] : List TRule)).length), (9, .bool true), (10, .int .i64 ((i10 + 1) : Int))], [(0, .box (TRule.c x1)), (1, .row 6 34 ((out8 ++ ([x10] : List TRule)).map TRule.c))], 2⟩ (by omega) (Conv.keep [0, 3] [] [0, 3, 8, 9, 10] rfl rfl (viewE_cons rfl rfl (viewE_cons rfl rfl (viewE_cons rfl rfl (viewE_cons rfl rfl (viewE_cons rfl rfl viewE_nil))))) rfl rfl) ⟨i10 + 1, true, (out8 ++ ([x10] : List TRule)), (by omega), rfl, hL_16, rfl⟩
   ·rw [hb3]; first | replace hR := cond_t hb3 hR | (try simp only [hb3, bb] at hR)
    refine WK.condT rfl ?_
    refine WK.sr mixed ?_
    iterate 2 refine GX.m rfl ?_
    refine GX.done ?_
    refine WK.ret ?_
    obtain rfl := Option.some.inj hR
    exact RetQ.frw [] (.inr rfl) rfl rfl rfl (.tup (.cons .nil .refl))
  ·rw [hb2]; first | replace hR := cond_t hb2 hR | (try simp only [hb2, bb] at hR)
   refine WK.condT rfl ?_
   refine WK.sr mixed ?_
   iterate 2 refine GX.m rfl ?_
   refine GX.done ?_
   refine WK.ret ?_
   obtain rfl := Option.some.inj hR
   exact RetQ.frw [] (.inr rfl) rfl rfl rfl (.tup (.cons .nil .refl))

theorem f27_ok (l0 : List TRule) (q1 : TPrefix) (R : Bool × Int) (hR : F27_crossroadsref07_Eval l0 q1 = R) : FnOk Tryz.prog 27 [.ro 6 (l0.map TRule.c), .agg (TPrefix.c q1)] [] 0 (.tup [.bool R.1, .int .i64 R.2]) [] 0 := by
 refine FnOk.wk i27 rfl rfl ?_
 unfold F27_crossroadsref07_Eval at hR
 change WK _ _ _ [ac27] _ ⟨[(0, .ro 6 (l0.map TRule.c)), (1, .agg (TPrefix.c q1))], [], 0⟩
 unfold ac27
 refine WK.sr mixed ?_
 refine GX.step (v' := .ptr 0 0) (heap' := [(0, .box (TPrefix.c q1))]) (next' := 1) rfl rfl rfl rfl rfl rfl rfl ?_
 iterate 2 refine GX.m rfl ?_
 refine GX.done ?_
 refine WK.seq ?_
 refine WK.sr mixed ?_
 refine GX.m rfl ?_
 refine GX.done ?_
 refine WK.len (t := 0) rfl (by simp) (fun hlen_1 => ?_)
 rw [List.length_map] at hlen_1
 generalize hZ_1 : F27_crossroadsref07_Eval_l1 q1 l0 = Z_1 at hR
 refine WK.forK (fun k s => ∃ (i6 : Nat), i6 ≤ l0.length ∧ k = l0.length - i6 ∧ F27_crossroadsref07_Eval_l1 q1 (l0.drop i6) = Z_1 ∧ s = ⟨[(0, .ro 6 (l0.map TRule.c)), (3, .ptr 0 0), (6, .int .i64 (i6 : Int))], [(0, .box (TPrefix.c q1))], 1⟩) l0.length ⟨⟨[(0, .ro 6 (l0.map TRule.c)), (3, .ptr 0 0), (6, .int .i64 (0 : Int))], [(0, .box (TPrefix.c q1))], 1⟩, Conv.keep [0] [] [0, 3, 6] rfl rfl (viewE_cons rfl rfl (viewE_cons rfl rfl (viewE_cons rfl rfl viewE_nil))) rfl rfl, 0, (by omega), rfl, hZ_1, rfl⟩ ?_
 rintro _ _ ⟨i6, hi_1, rfl, hL_1, rfl⟩ again_1 out_1 Q_1 hagain_1 hout_1 hQ_1
 refine WK.seq ?_
 refine WK.sr mixed ?_
 iterate 2 refine GX.m rfl ?_
 refine GX.pure (v' := .int .i64 (l0.length : Int)) rfl rfl rfl rfl (len_map _ _) ?_
 refine GX.q (.bool (decide ((i6 : Int) < (l0.length : Int)))) ?_
 refine GX.done ?_
 rcases bool_two (decide ((i6 : Int) < (l0.length : Int))) with hb2 | hb2
 ·rw [hb2]
  rw [drop_end hb2, F27_crossroadsref07_Eval_l1] at hL_1
  refine WK.condF rfl ?_
  refine WK.exit ?_
  refine QF.exit (hout_1 _ ?_)
  subst hL_1
  try dsimp only [cond_true, cond_false] at hR
  refine WK.sr mixed ?_
  iterate 2 refine GX.m rfl ?_
  refine GX.done ?_
  refine WK.ret ?_
  subst hR
  exact RetQ.fr [] (.inr rfl) rfl rfl rfl rfl
 ·rw [hb2]
  obtain ⟨x6, hx1, hd1, hlt1⟩ := drop_more hb2
  rw [hd1, F27_crossroadsref07_Eval_l1] at hL_1
  refine WK.condT rfl ?_
  refine WK.skip ?_
  refine WK.seq ?_
  refine WK.blockK (fun _ hK3 => ?_)
  refine WK.seq ?_
  refine WK.drawn mixed ?_
  iterate 2 refine RD.m rfl ?_
  refine RD.idxT (c := TRule.c) (x := x6) rfl rfl rfl (Int.natCast_nonneg _) hx1 ?_
  refine RD.q (.agg (TRule.c x6)) ?_
  refine RD.q (.agg (TPrefix.c q1)) ?_
  generalize hc18 : F15_crossroadsref07_Means x6 q1 = c18 at hL_1
  try dsimp only at hL_1
  refine RD.callp (r := .bool c18) rfl rfl rfl (f15_ok x6 q1 _ hc18) rfl rfl ?_
  refine RD.done rfl ?_
  rcases bool_two (c18) with hb4 | hb4
  ·rw [hb4]; try simp only [hb4, bb] at hL_1
   refine WK.condF rfl ?_
   refine WK.skip ?_
   refine WK.nil (QF.normal (hK3 _ ?_))
   refine WK.regx mixed ?_
   refine GX.m rfl ?_
   refine GX.pure (v' := .int .i64 ((i6 + 1 : Nat) : Int)) rfl rfl rfl rfl (congrArg (PVal.int .i64) (wrap_up hlt1 hlen_1)) ?_
   refine GX.m rfl ?_
   refine GX.done ?_
   refine WK.nil (QF.normal ?_)
   exact hagain_1 _ (l0.length - (i6 + 1)) ⟨[(0, .ro 6 (l0.map TRule.c)), (3, .ptr 0 0), (6, .int .i64 ((i6 + 1) : Int))], [(0, .box (TPrefix.c q1))], 1⟩ (by omega) (Conv.keep [0] [] [0, 3, 6] rfl rfl (viewE_cons rfl rfl (viewE_cons rfl rfl (viewE_cons rfl rfl viewE_nil))) rfl rfl) ⟨i6 + 1, (by omega), rfl, hL_1, rfl⟩
  ·rw [hb4]; try simp only [hb4, bb] at hL_1
   refine WK.condT rfl ?_
   refine WK.seq ?_
   refine WK.drawn mixed ?_
   iterate 2 refine RD.m rfl ?_
   refine RD.idxT (c := TRule.c) (x := x6) rfl rfl rfl (Int.natCast_nonneg _) hx1 ?_
   refine RD.q (.rptr [.bool x6.Permit, .int .u32 x6.P.A, .int .i64 x6.P.N, .int .i64 x6.Ge, .int .i64 x6.Le]) ?_
   refine RD.q (.bool x6.Permit) ?_
   iterate 2 refine RD.m rfl ?_
   refine RD.idxT (c := TRule.c) (x := x6) rfl rfl rfl (Int.natCast_nonneg _) hx1 ?_
   refine RD.q (.rptr (TRule.c x6)) ?_
   refine RD.q (.int .i64 x6.Seq) ?_
   iterate 2 refine RD.m rfl ?_
   refine RD.done rfl ?_
   refine WK.ret ?_
   refine QF.ret ?_
   refine QF.ret (hQ_1 _ _ ?_)
   subst hL_1
   subst hR
   exact RetQ.fr [] (.inr rfl) rfl rfl rfl rfl

theorem f28_ok (a0 : List Int) (b1 : List Int) (R : Bool) (hR : F28_crossroadsref05_Ints a0 b1 = R) : FnOk Tryz.prog 28 [.ro 1 (a0.map c_i64), .ro 1 (b1.map c_i64)] [] 0 (.bool R) [] 0 := by
 refine FnOk.wk i28 rfl rfl ?_
 unfold F28_crossroadsref05_Ints at hR
 change WK _ _ _ [ac28] _ ⟨[(0, .ro 1 (a0.map c_i64)), (1, .ro 1 (b1.map c_i64))], [], 0⟩
 unfold ac28
 refine WK.sr mixed ?_
 refine GX.m rfl ?_
 refine GX.done ?_
 refine WK.seq ?_
 refine WK.sr mixed ?_
 refine GX.m rfl ?_
 refine GX.pure (v' := .int .i64 (a0.length : Int)) rfl rfl rfl rfl (len_map _ _) ?_
 refine GX.m rfl ?_
 refine GX.pure (v' := .int .i64 (b1.length : Int)) rfl rfl rfl rfl (len_map _ _) ?_
 refine GX.q (.bool (!decide ((a0.length : Int) = (b1.length : Int)))) ?_
 refine GX.done ?_
 rcases bool_two (decide ((a0.length : Int) = (b1.length : Int))) with hb1 | hb1
 ·rw [hb1]; try simp only [hb1, bb] at hR
  refine WK.condT rfl ?_
  refine WK.sr mixed ?_
  refine GX.m rfl ?_
  refine GX.done ?_
  refine WK.ret ?_
  subst hR
  exact RetQ.fr [] (.inr rfl) rfl rfl rfl rfl
 ·rw [hb1]; try simp only [hb1, bb] at hR
  refine WK.condF rfl ?_
  refine WK.skip ?_
  refine WK.seq ?_
  refine WK.sr mixed ?_
  refine GX.m rfl ?_
  refine GX.done ?_
  refine WK.len (t := 0) rfl (by simp) (fun hlen_2 => ?_)
  rw [List.length_map] at hlen_2
  generalize hZ_2 : F28_crossroadsref05_Ints_l1 b1 0 a0 = Z_2 at hR
  refine WK.forK (fun k s => ∃ (i5 : Nat), i5 ≤ a0.length ∧ k = a0.length - i5 ∧ F28_crossroadsref05_Ints_l1 b1 i5 (a0.drop i5) = Z_2 ∧ s = ⟨[(0, .ro 1 (a0.map c_i64)), (1, .ro 1 (b1.map c_i64)), (5, .int .i64 (i5 : Int))], [], 0⟩) a0.length ⟨⟨[(0, .ro 1 (a0.map c_i64)), (1, .ro 1 (b1.map c_i64)), (5, .int .i64 (0 : Int))], [], 0⟩, Conv.keep [] [] [0, 1, 5] rfl rfl (viewE_cons rfl rfl (viewE_cons rfl rfl (viewE_cons rfl rfl viewE_nil))) rfl rfl, 0, (by omega), rfl, hZ_2, rfl⟩ ?_
  rintro _ _ ⟨i5, hi_2, rfl, hL_2, rfl⟩ again_2 out_2 Q_2 hagain_2 hout_2 hQ_2
  refine WK.seq ?_
  refine WK.sr mixed ?_
  iterate 2 refine GX.m rfl ?_
  refine GX.pure (v' := .int .i64 (a0.length : Int)) rfl rfl rfl rfl (len_map _ _) ?_
  refine GX.q (.bool (decide ((i5 : Int) < (a0.length : Int)))) ?_
  refine GX.done ?_
  rcases bool_two (decide ((i5 : Int) < (a0.length : Int))) with hb3 | hb3
  ·rw [hb3]
   rw [drop_end hb3, F28_crossroadsref05_Ints_l1] at hL_2
   refine WK.condF rfl ?_
   refine WK.exit ?_
   refine QF.exit (hout_2 _ ?_)
   subst hL_2
   try dsimp only [cond_true, cond_false] at hR
   refine WK.sr mixed ?_
   refine GX.m rfl ?_
   refine GX.done ?_
   refine WK.ret ?_
   subst hR
   exact RetQ.fr [] (.inr rfl) rfl rfl rfl rfl
  ·rw [hb3]
   obtain ⟨x5, hx2, hd2, hlt2⟩ := drop_more hb3
   rw [hd2, F28_crossroadsref05_Ints_l1] at hL_2
   refine WK.condT rfl ?_
   refine WK.skip ?_
   refine WK.seq ?_
   refine WK.blockK (fun _ hK4 => ?_)
   refine WK.seq ?_
   refine WK.drawn mixed ?_
   iterate 2 refine RD.m rfl ?_
   refine RD.idxT (c := c_i64) (x := x5) rfl rfl rfl (Int.natCast_nonneg _) hx2 ?_
   refine RD.q (.int .i64 x5) ?_
   iterate 2 refine RD.m rfl ?_
   refine RD.idxT (c := c_i64) (x := (b1.getD i5 default)) rfl rfl rfl (Int.natCast_nonneg _) (getD_at (by ((try simp only [decide_eq_true_eq, decide_eq_false_iff_not, Bool.not_eq_true, Bool.not_eq_false] at *); first | omega | (rw [wrap64_of (by omega) (by omega)]; omega) | (unfold min_ max_; (repeat' split) <;> first | omega | (rw [wrap64_of (by omega) (by omega)]; omega))))) ?_
   refine RD.q (.int .i64 (b1.getD i5 default)) ?_
   refine RD.q (.bool (!decide (x5 = (b1.getD i5 default)))) ?_
   refine RD.done rfl ?_
   rcases bool_two (decide (x5 = (b1.getD i5 default))) with hb5 | hb5
   ·rw [hb5]; try simp only [hb5, bb] at hL_2
    refine WK.condT rfl ?_
    refine WK.sr mixed ?_
    refine GX.m rfl ?_
    refine GX.done ?_
    refine WK.ret ?_
    refine QF.ret ?_
    refine QF.ret (hQ_2 _ _ ?_)
    subst hL_2
    subst hR
    exact RetQ.fr [] (.inr rfl) rfl rfl rfl rfl
   ·rw [hb5]; try simp only [hb5, bb] at hL_2
    refine WK.condF rfl ?_
    refine WK.skip ?_
    refine WK.nil (QF.normal (hK4 _ ?_))
    refine WK.regx mixed ?_
    refine GX.m rfl ?_
    refine GX.pure (v' := .int .i64 ((i5 + 1 : Nat) : Int)) rfl rfl rfl rfl (congrArg (PVal.int .i64) (wrap_up hlt2 hlen_2)) ?_
    refine GX.m rfl ?_
    refine GX.done ?_
    refine WK.nil (QF.normal ?_)
    exact hagain_2 _ (a0.length - (i5 + 1)) ⟨[(0, .ro 1 (a0.map c_i64)), (1, .ro 1 (b1.map c_i64)), (5, .int .i64 ((i5 + 1) : Int))], [], 0⟩ (by omega) (Conv.keep [] [] [0, 1, 5] rfl rfl (viewE_cons rfl rfl (viewE_cons rfl rfl (viewE_cons rfl rfl viewE_nil))) rfl rfl) ⟨i5 + 1, (by omega), rfl, hL_2, rfl⟩

theorem f29_ok (l0 : List TRule) (R : (List Int)) (hR : F29_crossroadsref07_Idle l0 = some R) : FnOk Tryz.prog 29 [.ro 6 (l0.map TRule.c)] [] 0 (.ro 1 (R.map c_i64)) [] 0 := by
 refine FnOk.wk i29 rfl rfl ?_
 unfold F29_crossroadsref07_Idle at hR
 try dsimp only at hR
 change WK _ _ _ [ac29] _ ⟨[(0, .ro 6 (l0.map TRule.c))], [], 0⟩
 unfold ac29
 refine WK.sr mixed ?_
 refine GX.m rfl ?_
 refine GX.done ?_
 refine WK.sr mixed ?_
 refine GX.step (v' := .own 0 1 0 (([] : List Int)).length) (heap' := [(0, .row 1 3 (([] : List Int).map c_i64))]) (next' := 1) rfl rfl rfl rfl rfl rfl rfl ?_
 refine GX.m rfl ?_
 refine GX.done ?_
 refine WK.seq ?_
 refine WK.sr mixed ?_
 refine GX.m rfl ?_
 refine GX.done ?_
 refine WK.len (t := 0) rfl (by simp) (fun hlen_13 => ?_)
 rw [List.length_map] at hlen_13
 generalize hZ_13 : F29_crossroadsref07_Idle_l2 l0 ([] : List Int) 0 l0 = Z_13 at hR
 refine WK.forK (fun k s => ∃ (i4 : Nat) (out3 : List Int), i4 ≤ l0.length ∧ k = l0.length - i4 ∧ F29_crossroadsref07_Idle_l2 l0 out3 i4 (l0.drop i4) = Z_13 ∧ s = ⟨[(0, .ro 6 (l0.map TRule.c)), (3, .own 0 1 0 out3.length), (4, .int .i64 (i4 : Int))], [(0, .row 1 3 (out3.map c_i64))], 1⟩) l0.length ⟨⟨[(0, .ro 6 (l0.map TRule.c)), (3, .own 0 1 0 ([] : List Int).length), (4, .int .i64 (0 : Int))], [(0, .row 1 3 (([] : List Int).map c_i64))], 1⟩, Conv.keep [0] [] [0, 3, 4] rfl rfl (viewE_cons rfl rfl (viewE_cons rfl rfl (viewE_cons rfl rfl viewE_nil))) rfl rfl, 0, ([] : List Int), (by omega), rfl, hZ_13, rfl⟩ ?_
 rintro _ _ ⟨i4, out3, hi_13, rfl, hL_13, rfl⟩ again_13 out_13 Q_13 hagain_13 hout_13 hQ_13
 refine WK.seq ?_
 refine WK.sr mixed ?_
 iterate 2 refine GX.m rfl ?_
 refine GX.pure (v' := .int .i64 (l0.length : Int)) rfl rfl rfl rfl (len_map _ _) ?_
 refine GX.q (.bool (decide ((i4 : Int) < (l0.length : Int)))) ?_
 refine GX.done ?_
 rcases bool_two (decide ((i4 : Int) < (l0.length : Int))) with hb14 | hb14
 ·rw [hb14]
  rw [drop_end hb14, F29_crossroadsref07_Idle_l2] at hL_13
  refine WK.condF rfl ?_
  refine WK.exit ?_
  refine QF.exit (hout_13 _ ?_)
  subst hL_13
  try dsimp only [cond_true, cond_false] at hR
  refine WK.sr mixed ?_
  iterate 2 refine GX.m rfl ?_
  refine GX.done ?_
  refine WK.ret ?_
  obtain rfl := Option.some.inj hR
  exact RetQ.fr [0] (.inr rfl) rfl rfl (viewGo_cons (view_rowT rfl rfl) viewGo_nil) rfl
 ·rw [hb14]
  obtain ⟨x4, hx13, hd13, hlt13⟩ := drop_more hb14
  rw [hd13, F29_crossroadsref07_Idle_l2] at hL_13
  refine WK.condT rfl ?_
  refine WK.skip ?_
  refine WK.seq ?_
  refine WK.blockK (fun _ hK15 => ?_)
  refine WK.sr mixed ?_
  iterate 2 refine GX.m rfl ?_
  refine GX.idxT (c := TRule.c) (x := x4) rfl rfl rfl (Int.natCast_nonneg _) hx13 ?_
  refine GX.q (.agg (TRule.c x4)) ?_
  generalize hc23 : F41_crossroadsref07_Bounds x4 = c23 at hL_13
  obtain ⟨c23a, c23b⟩ := c23; try dsimp only at hL_13
  refine GX.callp (r := .tup [.int .i64 c23a, .int .i64 c23b]) rfl rfl rfl (f41_ok x4 _ hc23) rfl rfl ?_
  refine GX.m rfl ?_
  refine GX.q (.int .i64 c23a) ?_
  refine GX.q (.int .i64 c23b) ?_
  iterate 2 refine GX.m rfl ?_
  refine GX.done ?_
  refine WK.sr mixed ?_
  refine GX.m rfl ?_
  refine GX.done ?_
  refine WK.seq ?_
  refine WK.sr mixed ?_
  refine GX.m rfl ?_
  refine GX.done ?_
  generalize hZ_22 : F29_crossroadsref07_Idle_l1 l0 i4 x4 c23a c23b (fuelUp 0 (i4 : Int)) false 0 = Z_22 at hL_13
  refine WK.forK (fun k s => ∃ (i8 : Int) (idle7 : Bool), fuelUp i8 (i4 : Int) ≤ k ∧ 0 ≤ i8 ∧ F29_crossroadsref07_Idle_l1 l0 i4 x4 c23a c23b k idle7 i8 = Z_22 ∧ s = ⟨[(0, .ro 6 (l0.map TRule.c)), (3, .own 0 1 0 out3.length), (4, .int .i64 (i4 : Int)), (5, .int .i64 c23a), (6, .int .i64 c23b), (7, .bool idle7), (8, .int .i64 i8)], [(0, .row 1 3 (out3.map c_i64))], 1⟩) (fuelUp 0 (i4 : Int)) ⟨⟨[(0, .ro 6 (l0.map TRule.c)), (3, .own 0 1 0 out3.length), (4, .int .i64 (i4 : Int)), (5, .int .i64 c23a), (6, .int .i64 c23b), (7, .bool false), (8, .int .i64 0)], [(0, .row 1 3 (out3.map c_i64))], 1⟩, Conv.keep [0] [] [0, 3, 4, 5, 6, 7, 8] rfl rfl (viewE_cons rfl rfl (viewE_cons rfl rfl (viewE_cons rfl rfl (viewE_cons rfl rfl (viewE_cons rfl rfl (viewE_cons rfl rfl (viewE_cons rfl rfl viewE_nil))))))) rfl rfl, 0, false, Nat.le_refl _, (by omega), hZ_22, rfl⟩ ?_
  rintro k22 _ ⟨i8, idle7, hfu22, hinv22_c0, hL_22, rfl⟩ again_22 out_22 Q_22 hagain_22 hout_22 hQ_22
  refine WK.seq ?_
  refine WK.sr mixed ?_
  iterate 2 refine GX.m rfl ?_
  refine GX.q (.bool (decide (i8 < (i4 : Int)))) ?_
  refine GX.done ?_
  rcases bool_two (decide (i8 < (i4 : Int))) with hb23 | hb23
  ·rw [hb23]
   unfold F29_crossroadsref07_Idle_l1 at hL_22; rw [hb23, cond_false] at hL_22
   refine WK.condF rfl ?_
   refine WK.exit ?_
   refine QF.exit (hout_22 _ ?_)
   subst hL_22
   try dsimp only [cond_true, cond_false] at hL_13
   refine WK.sr mixed ?_
   refine GX.m rfl ?_
   refine GX.done ?_
   rcases bool_two (idle7) with hb24 | hb24
   ·rw [hb24]; try simp only [hb24, bb] at hL_13
    refine WK.condF rfl ?_
    refine WK.skip ?_
    refine WK.nil (QF.normal (hK15 _ ?_))
    refine WK.regx mixed ?_
    refine GX.m rfl ?_
    refine GX.pure (v' := .int .i64 ((i4 + 1 : Nat) : Int)) rfl rfl rfl rfl (congrArg (PVal.int .i64) (wrap_up hlt13 hlen_13)) ?_
    refine GX.m rfl ?_
    refine GX.done ?_
    refine WK.nil (QF.normal ?_)
    exact hagain_13 _ (l0.length - (i4 + 1)) ⟨[(0, .ro 6 (l0.map TRule.c)), (3, .own 0 1 0 out3.length), (4, .int .i64 ((i4 + 1) : Int))], [(0, .row 1 3 (out3.map c_i64))], 1⟩ (by omega) (Conv.keep [0] [] [0, 3, 4] rfl rfl (viewE_cons rfl rfl (viewE_cons rfl rfl (viewE_cons rfl rfl viewE_nil))) rfl rfl) ⟨i4 + 1, out3, (by omega), rfl, hL_13, rfl⟩
   ·rw [hb24]; try simp only [hb24, bb] at hL_13
    refine WK.condT rfl ?_
    refine WK.regx mixed ?_
    iterate 3 refine GX.m rfl ?_
    refine GX.idxT (c := TRule.c) (x := x4) rfl rfl rfl (Int.natCast_nonneg _) hx13 ?_
    refine GX.q (.rptr (TRule.c x4)) ?_
    refine GX.q (.int .i64 x4.Seq) ?_
    refine GX.step (v' := .own 1 1 0 (([x4.Seq] : List Int)).length) (heap' := [(0, .row 1 3 (out3.map c_i64)), (1, .row 1 3 (([x4.Seq] : List Int).map c_i64))]) (next' := 2) rfl rfl rfl rfl rfl rfl rfl ?_
    rcases bool_two (decide (out3.length < 1099511627776)) with hg25 | hg25
    ·simp only [hg25, bb] at hL_13
     try dsimp only at hL_13
     subst hL_13
     try dsimp only at hR
     cases hR
    simp only [hg25, bb] at hL_13
    have hg25_ := of_decide_eq_true hg25
    refine GX.appT (c := c_i64) (L := out3) (X := ([x4.Seq] : List Int)) (heap' := [(1, .row 1 3 (([x4.Seq] : List Int).map c_i64)), (2, .row 1 3 ((out3 ++ ([x4.Seq] : List Int)).map c_i64))]) (next' := 3) rfl rfl rfl rfl (elems_own rfl) (by ((try simp only [List.length_append, List.length_cons, List.length_nil, List.length_map, decide_eq_true_eq, decide_eq_false_iff_not] at *) <;> omega)) (by ((try simp only [List.length_append, List.length_cons, List.length_nil, List.length_map, decide_eq_true_eq, decide_eq_false_iff_not] at *) <;> omega)) rfl rfl rfl rfl ?_
    refine GX.m rfl ?_
    refine GX.done ?_
    refine WK.nil (QF.normal (hK15 _ ?_))
    refine WK.regx mixed ?_
    refine GX.m rfl ?_
    refine GX.pure (v' := .int .i64 ((i4 + 1 : Nat) : Int)) rfl rfl rfl rfl (congrArg (PVal.int .i64) (wrap_up hlt13 hlen_13)) ?_
    refine GX.m rfl ?_
    refine GX.done ?_
    refine WK.nil (QF.normal ?_)
    exact hagain_13 _ (l0.length - (i4 + 1)) ⟨[(0, .ro 6 (l0.map TRule.c)), (3, .own 0 1 0 (out3 ++ ([x4.Seq] : List Int)).length), (4, .int .i64 ((i4 + 1) : Int))], [(0, .row 1 3 ((out3 ++ ([x4.Seq] : List Int)).map c_i64))], 1⟩ (by omega) (Conv.keep [2] [] [0, 3, 4] rfl rfl (viewE_cons rfl rfl (viewE_cons rfl rfl (viewE_cons rfl rfl viewE_nil))) rfl rfl) ⟨i4 + 1, (out3 ++ ([x4.Seq] : List Int)), (by omega), rfl, hL_13, rfl⟩
  ·rw [hb23]
   obtain ⟨f22, rfl⟩ := fuel_pos hb23 hfu22
   unfold F29_crossroadsref07_Idle_l1 at hL_22; rw [hb23, cond_true] at hL_22; dsimp only at hL_22
   refine WK.condT rfl ?_
   refine WK.skip ?_
   refine WK.seq ?_
   refine WK.blockK (fun _ hK26 => ?_)
   refine WK.sr mixed ?_
   iterate 2 refine GX.m rfl ?_
   generalize hx926 : getI l0 i8 = x926 at hL_22
   rcases x926 with _ | x926
   ·try dsimp only at hL_22
    subst hL_22
    try dsimp only at hL_13
    subst hL_13
    try dsimp only at hR
    cases hR
   try dsimp only at hL_22
   obtain ⟨hx9260, hx926j, hx926l, hx926⟩ := getI_some hx926
   refine GX.idxT (c := TRule.c) (x := x926) rfl rfl rfl hx9260 hx926 ?_
   refine GX.q (.agg (TRule.c x926)) ?_
   generalize hc36 : F41_crossroadsref07_Bounds x926 = c36 at hL_22
   obtain ⟨c36a, c36b⟩ := c36; try dsimp only at hL_22
   refine GX.callp (r := .tup [.int .i64 c36a, .int .i64 c36b]) rfl rfl rfl (f41_ok x926 _ hc36) rfl rfl ?_
   refine GX.m rfl ?_
   refine GX.q (.int .i64 c36a) ?_
   refine GX.q (.int .i64 c36b) ?_
   iterate 2 refine GX.m rfl ?_
   refine GX.done ?_
   refine WK.drawn mixed ?_
   iterate 2 refine RD.m rfl ?_
   rcases bool_two (idle7) with hb28 | hb28
   ·rw [hb28]; try simp only [hb28, bb] at hL_22
    iterate 2 refine RD.m rfl ?_
    refine RD.idxT (c := TRule.c) (x := x926) rfl rfl rfl hx9260 hx926 ?_
    refine RD.q (.rptr [.int .u32 x926.P.A, .int .i64 x926.P.N, .int .i64 x926.Ge, .int .i64 x926.Le]) ?_
    refine RD.q (.agg [.int .u32 x926.P.A, .int .i64 x926.P.N]) ?_
    iterate 2 refine RD.m rfl ?_
    refine RD.idxT (c := TRule.c) (x := x4) rfl rfl rfl (Int.natCast_nonneg _) hx13 ?_
    refine RD.q (.rptr [.int .u32 x4.P.A, .int .i64 x4.P.N, .int .i64 x4.Ge, .int .i64 x4.Le]) ?_
    refine RD.q (.agg [.int .u32 x4.P.A, .int .i64 x4.P.N]) ?_
    generalize hc51 : F42_crossroadsref03_Covers x926.P x4.P = c51 at hL_22
    try dsimp only at hL_22
    refine RD.callp (r := .bool c51) rfl rfl rfl (f42_ok x926.P x4.P _ hc51) rfl rfl ?_
    refine RD.m rfl ?_
    rcases bool_two (c51) with hb29 | hb29
    ·rw [hb29]; try simp only [hb29, bb] at hL_22
     iterate 3 refine RD.skip rfl rfl ?_
     refine RD.q (.bool false) ?_
     refine RD.m rfl ?_
     iterate 3 refine RD.skip rfl rfl ?_
     iterate 2 refine RD.q (.bool false) ?_
     refine RD.m rfl ?_
     refine RD.doneB [0, 1, 3, 3, 15, 31, 63, 3, 3, 387, 899, 1923, 4095, 8191, 16383, 16383, 65535, 131071, 262143, 524287, 524287, 2097151, 4194303, 8388607, 16777215] (by kernel_rfl) (by kernel_rfl) (by kernel_rfl) ?_
     refine WK.nil (QF.normal (hK26 _ ?_))
     refine WK.regx mixed ?_
     refine GX.m rfl ?_
     refine GX.q (.int .i64 (IntKind.i64.wrap (i8 + 1))) ?_
     refine GX.m rfl ?_
     refine GX.done ?_
     refine WK.nil (QF.normal ?_)
     exact hagain_22 _ f22 ⟨[(0, .ro 6 (l0.map TRule.c)), (3, .own 0 1 0 out3.length), (4, .int .i64 (i4 : Int)), (5, .int .i64 c23a), (6, .int .i64 c23b), (7, .bool false), (8, .int .i64 (IntKind.i64.wrap (i8 + 1)))], [(0, .row 1 3 (out3.map c_i64))], 1⟩ (Nat.lt_succ_self _) (Conv.keep [0] [] [0, 3, 4, 5, 6, 7, 8] rfl rfl (viewE_cons rfl rfl (viewE_cons rfl rfl (viewE_cons rfl rfl (viewE_cons rfl rfl (viewE_cons rfl rfl (viewE_cons rfl rfl (viewE_cons rfl rfl viewE_nil))))))) rfl rfl) ⟨(IntKind.i64.wrap (i8 + 1)), false, fuel_up hb23 (by omega) hfu22, (by ((try simp only [List.length_append, List.length_cons, List.length_nil, decide_eq_true_eq, decide_eq_false_iff_not] at *) <;> first | omega | (rw [wrap64_of (by omega) (by omega)]; omega))), hL_22, rfl⟩
    ·rw [hb29]; try simp only [hb29, bb] at hL_22
     iterate 2 refine RD.m rfl ?_
     iterate 2 refine RD.q (.bool (decide (c36a ≤ c23a))) ?_
     refine RD.m rfl ?_
     rcases bool_two (decide (c36a ≤ c23a)) with hb30 | hb30
     ·rw [hb30]; try simp only [hb30, bb] at hL_22
      iterate 3 refine RD.skip rfl rfl ?_
      iterate 2 refine RD.q (.bool false) ?_
      refine RD.m rfl ?_
      refine RD.doneB [0, 1, 3, 3, 15, 31, 63, 3, 3, 387, 899, 1923, 4095, 8191, 16383, 16383, 65535, 131071, 262143, 524287, 524287, 2097151, 4194303, 8388607, 16777215] (by kernel_rfl) (by kernel_rfl) (by kernel_rfl) ?_
      refine WK.nil (QF.normal (hK26 _ ?_))
      refine WK.regx mixed ?_
      refine GX.m rfl ?_
      refine GX.q (.int .i64 (IntKind.i64.wrap (i8 + 1))) ?_
      refine GX.m rfl ?_
      refine GX.done ?_
      refine WK.nil (QF.normal ?_)
      exact hagain_22 _ f22 ⟨[(0, .ro 6 (l0.map TRule.c)), (3, .own 0 1 0 out3.length), (4, .int .i64 (i4 : Int)), (5, .int .i64 c23a), (6, .int .i64 c23b), (7, .bool false), (8, .int .i64 (IntKind.i64.wrap (i8 + 1)))], [(0, .row 1 3 (out3.map c_i64))], 1⟩ (Nat.lt_succ_self _) (Conv.keep [0] [] [0, 3, 4, 5, 6, 7, 8] rfl rfl (viewE_cons rfl rfl (viewE_cons rfl rfl (viewE_cons rfl rfl (viewE_cons rfl rfl (viewE_cons rfl rfl (viewE_cons rfl rfl (viewE_cons rfl rfl viewE_nil))))))) rfl rfl) ⟨(IntKind.i64.wrap (i8 + 1)), false, fuel_up hb23 (by omega) hfu22, (by ((try simp only [List.length_append, List.length_cons, List.length_nil, decide_eq_true_eq, decide_eq_false_iff_not] at *) <;> first | omega | (rw [wrap64_of (by omega) (by omega)]; omega))), hL_22, rfl⟩
     ·rw [hb30]; try simp only [hb30, bb] at hL_22
      iterate 2 refine RD.m rfl ?_
      iterate 3 refine RD.q (.bool (decide (c23b ≤ c36b))) ?_
      refine RD.m rfl ?_
      refine RD.doneB [0, 1, 3, 3, 15, 31, 63, 3, 3, 387, 899, 1923, 4095, 8191, 16383, 16383, 65535, 131071, 262143, 524287, 524287, 2097151, 4194303, 8388607, 16777215] (by kernel_rfl) (by kernel_rfl) (by kernel_rfl) ?_
      refine WK.nil (QF.normal (hK26 _ ?_))
      refine WK.regx mixed ?_
      refine GX.m rfl ?_
      refine GX.q (.int .i64 (IntKind.i64.wrap (i8 + 1))) ?_
      refine GX.m rfl ?_
      refine GX.done ?_
      refine WK.nil (QF.normal ?_)
      exact hagain_22 _ f22 ⟨[(0, .ro 6 (l0.map TRule.c)), (3, .own 0 1 0 out3.length), (4, .int .i64 (i4 : Int)), (5, .int .i64 c23a), (6, .int .i64 c23b), (7, .bool (decide (c23b ≤ c36b))), (8, .int .i64 (IntKind.i64.wrap (i8 + 1)))], [(0, .row 1 3 (out3.map c_i64))], 1⟩ (Nat.lt_succ_self _) (Conv.keep [0] [] [0, 3, 4, 5, 6, 7, 8] rfl rfl (viewE_cons rfl rfl (viewE_cons rfl rfl (viewE_cons rfl rfl (viewE_cons rfl rfl (viewE_cons rfl rfl (viewE_cons rfl rfl (viewE_cons rfl rfl viewE_nil))))))) rfl rfl) ⟨(IntKind.i64.wrap (i8 + 1)), (decide (c23b ≤ c36b)), fuel_up hb23 (by omega) hfu22, (by ((try simp only [List.length_append, List.length_cons, List.length_nil, decide_eq_true_eq, decide_eq_false_iff_not] at *) <;> first | omega | (rw [wrap64_of (by omega) (by omega)]; omega))), hL_22, rfl⟩
   ·rw [hb28]; try simp only [hb28, bb] at hL_22
    iterate 21 refine RD.skip rfl rfl ?_
    refine RD.q (.bool true) ?_
    refine RD.m rfl ?_
    refine RD.doneB [0, 1, 3, 3, 15, 31, 63, 3, 3, 387, 899, 1923, 4095, 8191, 16383, 16383, 65535, 131071, 262143, 524287, 524287, 2097151, 4194303, 8388607, 16777215] (by kernel_rfl) (by kernel_rfl) (by kernel_rfl) ?_
    refine WK.nil (QF.normal (hK26 _ ?_))
    refine WK.regx mixed ?_
    refine GX.m rfl ?_
    refine GX.q (.int .i64 (IntKind.i64.wrap (i8 + 1))) ?_
    refine GX.m rfl ?_
    refine GX.done ?_
    refine WK.nil (QF.normal ?_)
    exact hagain_22 _ f22 ⟨[(0, .ro 6 (l0.map TRule.c)), (3, .own 0 1 0 out3.length), (4, .int .i64 (i4 : Int)), (5, .int .i64 c23a), (6, .int .i64 c23b), (7, .bool true), (8, .int .i64 (IntKind.i64.wrap (i8 + 1)))], [(0, .row 1 3 (out3.map c_i64))], 1⟩ (Nat.lt_succ_self _) (Conv.keep [0] [] [0, 3, 4, 5, 6, 7, 8] rfl rfl (viewE_cons rfl rfl (viewE_cons rfl rfl (viewE_cons rfl rfl (viewE_cons rfl rfl (viewE_cons rfl rfl (viewE_cons rfl rfl (viewE_cons rfl rfl viewE_nil))))))) rfl rfl) ⟨(IntKind.i64.wrap (i8 + 1)), true, fuel_up hb23 (by omega) hfu22, (by ((try simp only [List.length_append, List.length_cons, List.length_nil, decide_eq_true_eq, decide_eq_false_iff_not] at *) <;> first | omega | (rw [wrap64_of (by omega) (by omega)]; omega))), hL_22, rfl⟩

theorem f7_ok (l0 : List TRule) (x1 : TRule) (q2 : TPrefix) (R : Bool) (hR : F7_crossroadslaw07_PlistLists l0 x1 q2 = some R) : FnOk Tryz.prog 7 [.ro 6 (l0.map TRule.c), .agg (TRule.c x1), .agg (TPrefix.c q2)] [] 0 (.bool R) [] 0 := by
 refine FnOk.wk i7 rfl rfl ?_
 unfold F7_crossroadslaw07_PlistLists at hR
 try dsimp only at hR
 change WK _ _ _ [ac7] _ ⟨[(0, .ro 6 (l0.map TRule.c)), (1, .agg (TRule.c x1)), (2, .agg (TPrefix.c q2))], [], 0⟩
 unfold ac7
 refine WK.sr mixed ?_
 refine GX.step (v' := .ptr 0 0) (heap' := [(0, .box (TRule.c x1))]) (next' := 1) rfl rfl rfl rfl rfl rfl rfl ?_
 refine GX.step (v' := .ptr 1 0) (heap' := [(0, .box (TRule.c x1)), (1, .box (TPrefix.c q2))]) (next' := 2) rfl rfl rfl rfl rfl rfl rfl ?_
 refine GX.m rfl ?_
 refine GX.done ?_
 refine WK.seq ?_
 refine WK.sr mixed ?_
 refine GX.m rfl ?_
 refine GX.pure (v' := .int .i64 (l0.length : Int)) rfl rfl rfl rfl (len_map _ _) ?_
 refine GX.q (.bool (decide (210 < (l0.length : Int)))) ?_
 refine GX.m rfl ?_
 rcases bool_two (decide (210 < (l0.length : Int))) with hb1 | hb1
 ·rw [hb1]; first | replace hR := cond_f hb1 hR | (try simp only [hb1, bb] at hR)
  refine GX.m rfl ?_
  generalize hc26 : F19_crossroadslaw07_rows l0 = c26 at hR
  rcases c26 with _ | c26
  ·try dsimp only at hR
   cases hR
  try dsimp only at hR
  try dsimp only at hR
  refine GX.callp (r := .ro 6 (c26.map TRule.c)) rfl rfl rfl (f19_ok l0 _ hc26) rfl rfl ?_
  generalize hc27 : F18_crossroadsref07_MayAll c26 = c27 at hR
  try dsimp only at hR
  refine GX.callp (r := .bool c27) rfl rfl rfl (f18_ok c26 _ hc27) rfl rfl ?_
  iterate 2 refine GX.q (.bool (!c27)) ?_
  refine GX.done ?_
  rcases bool_two (c27) with hb2 | hb2
  ·rw [hb2]; first | replace hR := cond_f hb2 hR | (try simp only [hb2, bb] at hR)
   refine WK.condT rfl ?_
   refine WK.sr mixed ?_
   generalize hc30 : F11_crossroadslaw07_alive = c30 at hR
   rcases c30 with _ | c30
   ·try dsimp only at hR
    cases hR
   try dsimp only at hR
   try dsimp only at hR
   refine GX.callp (r := .bool c30) rfl rfl rfl (f11_ok  _ hc30) rfl rfl ?_
   refine GX.m rfl ?_
   refine GX.done ?_
   refine WK.ret ?_
   obtain rfl := Option.some.inj hR
   exact RetQ.fr [] (.inr rfl) rfl rfl rfl rfl
  ·rw [hb2]; first | replace hR := cond_t hb2 hR | (try simp only [hb2, bb] at hR)
   refine WK.condF rfl ?_
   refine WK.skip ?_
   refine WK.sr mixed ?_
   refine GX.step (v' := .own 2 6 0 (([] : List TRule)).length) (heap' := [(0, .box (TRule.c x1)), (1, .box (TPrefix.c q2)), (2, .row 6 26 (([] : List TRule).map TRule.c))]) (next' := 3) rfl rfl rfl rfl rfl rfl rfl ?_
   refine GX.m rfl ?_
   rcases bool_two (decide (l0.length < 1099511627776)) with hg3 | hg3
   ·simp only [hg3, bb] at hR
    try dsimp only at hR
    cases hR
   simp only [hg3, bb] at hR
   have hg3_ := of_decide_eq_true hg3
   refine GX.appT (c := TRule.c) (L := ([] : List TRule)) (X := l0) (heap' := [(0, .box (TRule.c x1)), (1, .box (TPrefix.c q2)), (3, .row 6 26 (l0.map TRule.c))]) (next' := 4) rfl rfl rfl rfl elems_ro (by ((try simp only [List.length_append, List.length_cons, List.length_nil, List.length_map, decide_eq_true_eq, decide_eq_false_iff_not] at *) <;> omega)) (by ((try simp only [List.length_append, List.length_cons, List.length_nil, List.length_map, decide_eq_true_eq, decide_eq_false_iff_not] at *) <;> omega)) rfl rfl rfl rfl ?_
   refine GX.m rfl ?_
   refine GX.done ?_
   refine WK.seq ?_
   refine WK.conv (st' := ⟨[(0, .ro 6 (l0.map TRule.c)), (4, .ptr 0 0), (5, .ptr 1 0), (7, .ro 6 (l0.map TRule.c))], [(0, .box (TRule.c x1)), (1, .box (TPrefix.c q2))], 2⟩) (Conv.keep [0, 1] [3] [0, 4, 5, 7] rfl rfl (viewE_cons rfl rfl (viewE_cons rfl rfl (viewE_cons rfl rfl (viewE_cons rfl (view_rowT rfl rfl) viewE_nil)))) rfl rfl) ?_ (by simp)
   refine WK.regx mixed ?_
   refine GX.m rfl ?_
   refine GX.q (.agg (TRule.c x1)) ?_
   generalize hc37 : F23_plist_Add l0 x1 = c37 at hR
   rcases c37 with _ | c37
   ·try dsimp only at hR
    cases hR
   try dsimp only at hR
   obtain ⟨c37a, c37b⟩ := c37; try dsimp only at hR
   refine GX.callp (r := .tup [.ro 6 (c37a.map TRule.c), .int .i64 c37b]) rfl rfl rfl (f23_ok l0 x1 _ hc37) rfl rfl ?_
   refine GX.m rfl ?_
   refine GX.q (.ro 6 (c37a.map TRule.c)) ?_
   refine GX.q (.int .i64 c37b) ?_
   iterate 2 refine GX.m rfl ?_
   refine GX.done ?_
   refine WK.seq ?_
   refine WK.drawn mixed ?_
   refine RD.m rfl ?_
   refine RD.callp (r := .ro 6 (c26.map TRule.c)) rfl rfl rfl (f19_ok l0 _ hc26) rfl rfl ?_
   refine RD.q (.agg (TRule.c x1)) ?_
   generalize hc44 : F13_crossroadslaw07_plain x1 = c44 at hR
   try dsimp only at hR
   refine RD.callp (r := .agg [.int .i64 c44.Seq, .bool c44.Permit, .int .u32 c44.P.A, .int .i64 c44.P.N, .int .i64 c44.Ge, .int .i64 c44.Le]) rfl rfl rfl (f13_ok x1 _ hc44) rfl rfl ?_
   generalize hc45 : F25_crossroadsref07_Add c26 c44 = c45 at hR
   rcases c45 with _ | c45
   ·try dsimp only at hR
    cases hR
   try dsimp only at hR
   obtain ⟨c45a, c45b⟩ := c45; try dsimp only at hR
   refine RD.callp (r := .tup [.ro 6 (c45a.map TRule.c), .int .i64 c45b]) rfl rfl rfl (f25_ok c26 c44 _ hc45) rfl rfl ?_
   refine RD.m rfl ?_
   refine RD.q (.ro 6 (c45a.map TRule.c)) ?_
   refine RD.q (.int .i64 c45b) ?_
   iterate 2 refine RD.m rfl ?_
   refine RD.done rfl ?_
   refine WK.sr mixed ?_
   refine GX.m rfl ?_
   refine GX.q (.ptr 0 0) ?_
   refine GX.q (.int .i64 x1.Seq) ?_
   generalize hc52 : F21_plist_Drop l0 x1.Seq = c52 at hR
   rcases c52 with _ | c52
   ·try dsimp only at hR
    cases hR
   try dsimp only at hR
   obtain ⟨c52a, c52b⟩ := c52; try dsimp only at hR
   refine GX.callp (r := .tup [.ro 6 (c52a.map TRule.c), .int .i64 c52b]) rfl rfl rfl (f21_ok l0 x1.Seq _ hc52) rfl rfl ?_
   refine GX.m rfl ?_
   refine GX.q (.ro 6 (c52a.map TRule.c)) ?_
   refine GX.q (.int .i64 c52b) ?_
   iterate 2 refine GX.m rfl ?_
   refine GX.done ?_
   refine WK.seq ?_
   refine WK.drawn mixed ?_
   refine RD.m rfl ?_
   refine RD.callp (r := .ro 6 (c26.map TRule.c)) rfl rfl rfl (f19_ok l0 _ hc26) rfl rfl ?_
   refine RD.q (.ptr 0 0) ?_
   refine RD.q (.int .i64 x1.Seq) ?_
   generalize hc60 : F26_crossroadsref07_Drop c26 x1.Seq = c60 at hR
   rcases c60 with _ | c60
   ·try dsimp only at hR
    cases hR
   try dsimp only at hR
   obtain ⟨c60a, c60b⟩ := c60; try dsimp only at hR
   refine RD.callp (r := .tup [.ro 6 (c60a.map TRule.c), .int .i64 c60b]) rfl rfl rfl (f26_ok c26 x1.Seq _ hc60) rfl rfl ?_
   refine RD.m rfl ?_
   refine RD.q (.ro 6 (c60a.map TRule.c)) ?_
   refine RD.q (.int .i64 c60b) ?_
   iterate 2 refine RD.m rfl ?_
   refine RD.done rfl ?_
   refine WK.sr mixed ?_
   refine GX.m rfl ?_
   refine GX.q (.agg (TPrefix.c q2)) ?_
   generalize hc66 : F22_plist_Eval l0 q2 = c66 at hR
   rcases c66 with _ | c66
   ·try dsimp only at hR
    cases hR
   try dsimp only at hR
   obtain ⟨c66a, c66b⟩ := c66; try dsimp only at hR
   refine GX.callp (r := .tup [.bool c66a, .int .i64 c66b]) rfl rfl rfl (f22_ok l0 q2 _ hc66) rfl rfl ?_
   refine GX.m rfl ?_
   refine GX.q (.bool c66a) ?_
   refine GX.q (.int .i64 c66b) ?_
   iterate 2 refine GX.m rfl ?_
   refine GX.done ?_
   refine WK.seq ?_
   refine WK.drawn mixed ?_
   refine RD.m rfl ?_
   refine RD.callp (r := .ro 6 (c26.map TRule.c)) rfl rfl rfl (f19_ok l0 _ hc26) rfl rfl ?_
   refine RD.q (.agg (TPrefix.c q2)) ?_
   generalize hc73 : F27_crossroadsref07_Eval c26 q2 = c73 at hR
   obtain ⟨c73a, c73b⟩ := c73; try dsimp only at hR
   refine RD.callp (r := .tup [.bool c73a, .int .i64 c73b]) rfl rfl rfl (f27_ok c26 q2 _ hc73) rfl rfl ?_
   refine RD.m rfl ?_
   refine RD.q (.bool c73a) ?_
   refine RD.q (.int .i64 c73b) ?_
   iterate 2 refine RD.m rfl ?_
   refine RD.done rfl ?_
   refine WK.sr mixed ?_
   refine GX.m rfl ?_
   generalize hc77 : F19_crossroadslaw07_rows c37a = c77 at hR
   rcases c77 with _ | c77
   ·try dsimp only at hR
    cases hR
   try dsimp only at hR
   try dsimp only at hR
   refine GX.callp (r := .ro 6 (c77.map TRule.c)) rfl rfl rfl (f19_ok c37a _ hc77) rfl rfl ?_
   refine GX.m rfl ?_
   generalize hc79 : F24_crossroadsref07_Same c77 c45a = c79 at hR
   try dsimp only at hR
   refine GX.callp (r := .bool c79) rfl rfl rfl (f24_ok c77 c45a _ hc79) rfl rfl ?_
   refine GX.m rfl ?_
   rcases bool_two (c79) with hb4 | hb4
   ·rw [hb4]; first | replace hR := cond_f hb4 hR | (try simp only [hb4, bb] at hR)
    iterate 4 refine GX.skip rfl rfl ?_
    refine GX.q (.bool false) ?_
    refine GX.m rfl ?_
    iterate 6 refine GX.skip rfl rfl ?_
    refine GX.q (.bool false) ?_
    refine GX.m rfl ?_
    refine GX.done ?_
    refine WK.sr mixed ?_
    generalize hc94 : F11_crossroadslaw07_alive = c94 at hR
    rcases c94 with _ | c94
    ·try dsimp only at hR
     cases hR
    try dsimp only at hR
    try dsimp only at hR
    refine GX.callp (r := .bool c94) rfl rfl rfl (f11_ok  _ hc94) rfl rfl ?_
    refine GX.m rfl ?_
    rcases bool_two (c94) with hb5 | hb5
    ·rw [hb5]; first | replace hR := cond_f hb5 hR | (try simp only [hb5, bb] at hR)
     refine GX.skip rfl rfl ?_
     refine GX.q (.bool false) ?_
     refine GX.m rfl ?_
     iterate 3 refine GX.skip rfl rfl ?_
     refine GX.q (.bool false) ?_
     refine GX.m rfl ?_
     iterate 3 refine GX.skip rfl rfl ?_
     refine GX.q (.bool false) ?_
     refine GX.m rfl ?_
     iterate 3 refine GX.skip rfl rfl ?_
     refine GX.q (.bool false) ?_
     refine GX.m rfl ?_
     iterate 3 refine GX.skip rfl rfl ?_
     refine GX.q (.bool false) ?_
     refine GX.m rfl ?_
     iterate 5 refine GX.skip rfl rfl ?_
     refine GX.q (.bool false) ?_
     refine GX.m rfl ?_
     refine GX.done ?_
     refine WK.ret ?_
     obtain rfl := Option.some.inj hR
     exact RetQ.fr [] (.inr rfl) rfl rfl rfl rfl
    ·rw [hb5]; first | replace hR := cond_t hb5 hR | (try simp only [hb5, bb] at hR)
     refine GX.m rfl ?_
     refine GX.q (.bool false) ?_
     refine GX.m rfl ?_
     iterate 3 refine GX.skip rfl rfl ?_
     refine GX.q (.bool false) ?_
     refine GX.m rfl ?_
     iterate 3 refine GX.skip rfl rfl ?_
     refine GX.q (.bool false) ?_
     refine GX.m rfl ?_
     iterate 3 refine GX.skip rfl rfl ?_
     refine GX.q (.bool false) ?_
     refine GX.m rfl ?_
     iterate 3 refine GX.skip rfl rfl ?_
     refine GX.q (.bool false) ?_
     refine GX.m rfl ?_
     iterate 5 refine GX.skip rfl rfl ?_
     refine GX.q (.bool false) ?_
     refine GX.m rfl ?_
     refine GX.done ?_
     refine WK.ret ?_
     obtain rfl := Option.some.inj hR
     exact RetQ.fr [] (.inr rfl) rfl rfl rfl rfl
   ·rw [hb4]; first | replace hR := cond_t hb4 hR | (try simp only [hb4, bb] at hR)
    refine GX.m rfl ?_
    generalize hc82 : F19_crossroadslaw07_rows c52a = c82 at hR
    rcases c82 with _ | c82
    ·try dsimp only at hR
     cases hR
    try dsimp only at hR
    try dsimp only at hR
    refine GX.callp (r := .ro 6 (c82.map TRule.c)) rfl rfl rfl (f19_ok c52a _ hc82) rfl rfl ?_
    refine GX.m rfl ?_
    generalize hc84 : F24_crossroadsref07_Same c82 c60a = c84 at hR
    try dsimp only at hR
    refine GX.callp (r := .bool c84) rfl rfl rfl (f24_ok c82 c60a _ hc84) rfl rfl ?_
    refine GX.q (.bool c84) ?_
    refine GX.m rfl ?_
    rcases bool_two (c84) with hb6 | hb6
    ·rw [hb6]; first | replace hR := cond_f hb6 hR | (try simp only [hb6, bb] at hR)
     iterate 6 refine GX.skip rfl rfl ?_
     refine GX.q (.bool false) ?_
     refine GX.m rfl ?_
     refine GX.done ?_
     refine WK.sr mixed ?_
     generalize hc94 : F11_crossroadslaw07_alive = c94 at hR
     rcases c94 with _ | c94
     ·try dsimp only at hR
      cases hR
     try dsimp only at hR
     try dsimp only at hR
     refine GX.callp (r := .bool c94) rfl rfl rfl (f11_ok  _ hc94) rfl rfl ?_
     refine GX.m rfl ?_
     rcases bool_two (c94) with hb7 | hb7
     ·rw [hb7]; first | replace hR := cond_f hb7 hR | (try simp only [hb7, bb] at hR)
      refine GX.skip rfl rfl ?_
      refine GX.q (.bool false) ?_
      refine GX.m rfl ?_
      iterate 3 refine GX.skip rfl rfl ?_
      refine GX.q (.bool false) ?_
      refine GX.m rfl ?_
      iterate 3 refine GX.skip rfl rfl ?_
      refine GX.q (.bool false) ?_
      refine GX.m rfl ?_
      iterate 3 refine GX.skip rfl rfl ?_
      refine GX.q (.bool false) ?_
      refine GX.m rfl ?_
      iterate 3 refine GX.skip rfl rfl ?_
      refine GX.q (.bool false) ?_
      refine GX.m rfl ?_
      iterate 5 refine GX.skip rfl rfl ?_
      refine GX.q (.bool false) ?_
      refine GX.m rfl ?_
      refine GX.done ?_
      refine WK.ret ?_
      obtain rfl := Option.some.inj hR
      exact RetQ.fr [] (.inr rfl) rfl rfl rfl rfl
     ·rw [hb7]; first | replace hR := cond_t hb7 hR | (try simp only [hb7, bb] at hR)
      refine GX.m rfl ?_
      refine GX.q (.bool false) ?_
      refine GX.m rfl ?_
      iterate 3 refine GX.skip rfl rfl ?_
      refine GX.q (.bool false) ?_
      refine GX.m rfl ?_
      iterate 3 refine GX.skip rfl rfl ?_
      refine GX.q (.bool false) ?_
      refine GX.m rfl ?_
      iterate 3 refine GX.skip rfl rfl ?_
      refine GX.q (.bool false) ?_
      refine GX.m rfl ?_
      iterate 3 refine GX.skip rfl rfl ?_
      refine GX.q (.bool false) ?_
      refine GX.m rfl ?_
      iterate 5 refine GX.skip rfl rfl ?_
      refine GX.q (.bool false) ?_
      refine GX.m rfl ?_
      refine GX.done ?_
      refine WK.ret ?_
      obtain rfl := Option.some.inj hR
      exact RetQ.fr [] (.inr rfl) rfl rfl rfl rfl
    ·rw [hb6]; first | replace hR := cond_t hb6 hR | (try simp only [hb6, bb] at hR)
     refine GX.m rfl ?_
     generalize hc88 : F20_plist_Idle l0 = c88 at hR
     rcases c88 with _ | c88
     ·try dsimp only at hR
      cases hR
     try dsimp only at hR
     try dsimp only at hR
     refine GX.callp (r := .ro 1 (c88.map c_i64)) rfl rfl rfl (f20_ok l0 _ hc88) rfl rfl ?_
     refine GX.m rfl ?_
     refine GX.callp (r := .ro 6 (c26.map TRule.c)) rfl rfl rfl (f19_ok l0 _ hc26) rfl rfl ?_
     generalize hc91 : F29_crossroadsref07_Idle c26 = c91 at hR
     rcases c91 with _ | c91
     ·try dsimp only at hR
      cases hR
     try dsimp only at hR
     try dsimp only at hR
     refine GX.callp (r := .ro 1 (c91.map c_i64)) rfl rfl rfl (f29_ok c26 _ hc91) rfl rfl ?_
     generalize hc92 : F28_crossroadsref05_Ints c88 c91 = c92 at hR
     try dsimp only at hR
     refine GX.callp (r := .bool c92) rfl rfl rfl (f28_ok c88 c91 _ hc92) rfl rfl ?_
     refine GX.q (.bool c92) ?_
     refine GX.m rfl ?_
     refine GX.done ?_
     refine WK.sr mixed ?_
     generalize hc94 : F11_crossroadslaw07_alive = c94 at hR
     rcases c94 with _ | c94
     ·try dsimp only at hR
      cases hR
     try dsimp only at hR
     try dsimp only at hR
     refine GX.callp (r := .bool c94) rfl rfl rfl (f11_ok  _ hc94) rfl rfl ?_
     refine GX.m rfl ?_
     rcases bool_two (c94) with hb8 | hb8
     ·rw [hb8]; first | replace hR := cond_f hb8 hR | (try simp only [hb8, bb] at hR)
      refine GX.skip rfl rfl ?_
      refine GX.q (.bool false) ?_
      refine GX.m rfl ?_
      iterate 3 refine GX.skip rfl rfl ?_
      refine GX.q (.bool false) ?_
      refine GX.m rfl ?_
      iterate 3 refine GX.skip rfl rfl ?_
      refine GX.q (.bool false) ?_
      refine GX.m rfl ?_
      iterate 3 refine GX.skip rfl rfl ?_
      refine GX.q (.bool false) ?_
      refine GX.m rfl ?_
      iterate 3 refine GX.skip rfl rfl ?_
      refine GX.q (.bool false) ?_
      refine GX.m rfl ?_
      iterate 5 refine GX.skip rfl rfl ?_
      refine GX.q (.bool false) ?_
      refine GX.m rfl ?_
      refine GX.done ?_
      refine WK.ret ?_
      obtain rfl := Option.some.inj hR
      exact RetQ.fr [] (.inr rfl) rfl rfl rfl rfl
     ·rw [hb8]; first | replace hR := cond_t hb8 hR | (try simp only [hb8, bb] at hR)
      refine GX.m rfl ?_
      refine GX.q (.bool c92) ?_
      refine GX.m rfl ?_
      rcases bool_two (c92) with hb9 | hb9
      ·rw [hb9]; first | replace hR := cond_f hb9 hR | (try simp only [hb9, bb] at hR)
       iterate 3 refine GX.skip rfl rfl ?_
       refine GX.q (.bool false) ?_
       refine GX.m rfl ?_
       iterate 3 refine GX.skip rfl rfl ?_
       refine GX.q (.bool false) ?_
       refine GX.m rfl ?_
       iterate 3 refine GX.skip rfl rfl ?_
       refine GX.q (.bool false) ?_
       refine GX.m rfl ?_
       iterate 3 refine GX.skip rfl rfl ?_
       refine GX.q (.bool false) ?_
       refine GX.m rfl ?_
       iterate 5 refine GX.skip rfl rfl ?_
       refine GX.q (.bool false) ?_
       refine GX.m rfl ?_
       refine GX.done ?_
       refine WK.ret ?_
       obtain rfl := Option.some.inj hR
       exact RetQ.fr [] (.inr rfl) rfl rfl rfl rfl
      ·rw [hb9]; first | replace hR := cond_t hb9 hR | (try simp only [hb9, bb] at hR)
       iterate 2 refine GX.m rfl ?_
       iterate 2 refine GX.q (.bool (decide (c37b = c45b))) ?_
       refine GX.m rfl ?_
       rcases bool_two (decide (c37b = c45b)) with hb10 | hb10
       ·rw [hb10]; first | replace hR := cond_f hb10 hR | (try simp only [hb10, bb] at hR)
        iterate 3 refine GX.skip rfl rfl ?_
        refine GX.q (.bool false) ?_
        refine GX.m rfl ?_
        iterate 3 refine GX.skip rfl rfl ?_
        refine GX.q (.bool false) ?_
        refine GX.m rfl ?_
        iterate 3 refine GX.skip rfl rfl ?_
        refine GX.q (.bool false) ?_
        refine GX.m rfl ?_
        iterate 5 refine GX.skip rfl rfl ?_
        refine GX.q (.bool false) ?_
        refine GX.m rfl ?_
        refine GX.done ?_
        refine WK.ret ?_
        obtain rfl := Option.some.inj hR
        exact RetQ.fr [] (.inr rfl) rfl rfl rfl rfl
       ·rw [hb10]; first | replace hR := cond_t hb10 hR | (try simp only [hb10, bb] at hR)
        iterate 2 refine GX.m rfl ?_
        iterate 2 refine GX.q (.bool (decide (c52b = c60b))) ?_
        refine GX.m rfl ?_
        rcases bool_two (decide (c52b = c60b)) with hb11 | hb11
        ·rw [hb11]; first | replace hR := cond_f hb11 hR | (try simp only [hb11, bb] at hR)
         iterate 3 refine GX.skip rfl rfl ?_
         refine GX.q (.bool false) ?_
         refine GX.m rfl ?_
         iterate 3 refine GX.skip rfl rfl ?_
         refine GX.q (.bool false) ?_
         refine GX.m rfl ?_
         iterate 5 refine GX.skip rfl rfl ?_
         refine GX.q (.bool false) ?_
         refine GX.m rfl ?_
         refine GX.done ?_
         refine WK.ret ?_
         obtain rfl := Option.some.inj hR
         exact RetQ.fr [] (.inr rfl) rfl rfl rfl rfl
        ·rw [hb11]; first | replace hR := cond_t hb11 hR | (try simp only [hb11, bb] at hR)
         iterate 2 refine GX.m rfl ?_
         iterate 2 refine GX.q (.bool (c66a == c73a)) ?_
         refine GX.m rfl ?_
         rcases bool_two ((c66a == c73a)) with hb12 | hb12
         ·rw [hb12]; try simp only [hb12, bb] at hR
          iterate 3 refine GX.skip rfl rfl ?_
          refine GX.q (.bool false) ?_
          refine GX.m rfl ?_
          iterate 5 refine GX.skip rfl rfl ?_
          refine GX.q (.bool false) ?_
          refine GX.m rfl ?_
          refine GX.done ?_
          refine WK.ret ?_
          obtain rfl := Option.some.inj hR
          exact RetQ.fr [] (.inr rfl) rfl rfl rfl rfl
         ·rw [hb12]; try simp only [hb12, bb] at hR
          iterate 2 refine GX.m rfl ?_
          iterate 2 refine GX.q (.bool (decide (c66b = c73b))) ?_
          refine GX.m rfl ?_
          rcases bool_two (decide (c66b = c73b)) with hb13 | hb13
          ·rw [hb13]; first | replace hR := cond_f hb13 hR | (try simp only [hb13, bb] at hR)
           iterate 5 refine GX.skip rfl rfl ?_
           refine GX.q (.bool false) ?_
           refine GX.m rfl ?_
           refine GX.done ?_
           refine WK.ret ?_
           obtain rfl := Option.some.inj hR
           exact RetQ.fr [] (.inr rfl) rfl rfl rfl rfl
          ·rw [hb13]; first | replace hR := cond_t hb13 hR | (try simp only [hb13, bb] at hR)
           refine GX.m rfl ?_
           refine GX.callp (r := .ro 6 (c26.map TRule.c)) rfl rfl rfl (f19_ok l0 _ hc26) rfl rfl ?_
           refine GX.m rfl ?_
           refine GX.callp (r := .ro 6 (c26.map TRule.c)) rfl rfl rfl (f19_ok l0 _ hc26) rfl rfl ?_
           generalize hc123 : F24_crossroadsref07_Same c26 c26 = c123 at hR
           try dsimp only at hR
           refine GX.callp (r := .bool c123) rfl rfl rfl (f24_ok c26 c26 _ hc123) rfl rfl ?_
           refine GX.q (.bool c123) ?_
           refine GX.m rfl ?_
           refine GX.done ?_
           refine WK.ret ?_
           obtain rfl := Option.some.inj hR
           exact RetQ.fr [] (.inr rfl) rfl rfl rfl rfl
 ·rw [hb1]; first | replace hR := cond_t hb1 hR | (try simp only [hb1, bb] at hR)
  iterate 4 refine GX.skip rfl rfl ?_
  refine GX.q (.bool true) ?_
  refine GX.done ?_
  refine WK.condT rfl ?_
  refine WK.sr mixed ?_
  generalize hc30 : F11_crossroadslaw07_alive = c30 at hR
  rcases c30 with _ | c30
  ·try dsimp only at hR
   cases hR
  try dsimp only at hR
  try dsimp only at hR
  refine GX.callp (r := .bool c30) rfl rfl rfl (f11_ok  _ hc30) rfl rfl ?_
  refine GX.m rfl ?_
  refine GX.done ?_
  refine WK.ret ?_
  obtain rfl := Option.some.inj hR
  exact RetQ.fr [] (.inr rfl) rfl rfl rfl rfl

end Go.Proofs.YtjcpkgnlnmajjaaGreatDoor.Abs
