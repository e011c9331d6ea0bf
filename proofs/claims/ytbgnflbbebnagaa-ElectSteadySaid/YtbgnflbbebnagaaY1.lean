/- stand, walked; the plain law of ElectSteady. -/
import Derived.Test.YtbgnflbbebnagaaF2
import Derived.Test.YtbgnflbbebnagaaS1
set_option linter.unusedVariables false
set_option linter.unusedSimpArgs false
namespace Go.Proofs.Ytbgnflbbebnagaa.Abs
open Go

def stood (d b : Int) (x : Cand) : Cand := ⟨x.i, x.p, d, b⟩

def st21 (l : List Cand) (d b : Int) (i : Nat) : St := ⟨[(0, .ro 4 (l.map candC)), (1, .int .u32 d), (2, .int .u32 b), (7, .own 0 4 0 i), (8, .int .i64 i)], [(0, .row 4 38 (((l.take i).map (stood d b)).map candC))], 1⟩

theorem f21_ok (l : List Cand) (d b : Int) (hl : l.length < 2 ^ 40) : FnOk Try.prog 21 [.ro 4 (l.map candC), .int .u32 d, .int .u32 b] [] 0 (.own 0 4 0 l.length) [(0, .row 4 38 ((l.map (stood d b)).map candC))] 1 := by
  have hl62 : l.length < 2 ^ 62 := Nat.lt_trans hl (by decide)
  refine FnOk.wk i21 rfl rfl ?_
  unfold ac21
  simp only [paramE, Nat.reduceAdd]
  refine WK.seq (WK.reg mixed ?_)
  repeat (first | refine GO.pure rfl rfl rfl rfl (by first | (simp only [Nat.reduceAdd, Nat.reduceMul, List.drop, List.take, List.length, splice, List.set, if_true, if_false, Bool.false_eq_true]; rfl) | rfl) ?_ | refine GO.skip rfl rfl ?_ | refine GO.step rfl rfl rfl rfl (by first | (simp only [Nat.reduceAdd, Nat.reduceMul, List.drop, List.take, List.length, splice, List.set, if_true, if_false, Bool.false_eq_true]; rfl) | rfl) (by simp only [happL, setH, delH, splice, List.set, List.take, List.drop, List.append_eq, List.cons_append, List.nil_append, List.append_nil, List.length, reduceIte, Nat.reduceAdd, Nat.reduceEqDiff]; rfl) (by simp only [Nat.reduceAdd, Nat.add_zero, List.length]; rfl) ?_ | refine GO.step0 rfl rfl rfl (by simp only [happL, setH, delH, splice, List.set, List.take, List.drop, List.append_eq, List.cons_append, List.nil_append, List.append_nil, List.length, reduceIte, Nat.reduceAdd, Nat.reduceEqDiff]; rfl) (by simp only [Nat.reduceAdd, Nat.add_zero, List.length]; rfl) ?_)
  refine GO.done (WK.seq (WK.reg mixed ?_))
  repeat (first | refine GO.pure rfl rfl rfl rfl (by first | (simp only [Nat.reduceAdd, Nat.reduceMul, List.drop, List.take, List.length, splice, List.set, if_true, if_false, Bool.false_eq_true]; rfl) | rfl) ?_ | refine GO.skip rfl rfl ?_ | refine GO.step rfl rfl rfl rfl (by first | (simp only [Nat.reduceAdd, Nat.reduceMul, List.drop, List.take, List.length, splice, List.set, if_true, if_false, Bool.false_eq_true]; rfl) | rfl) (by simp only [happL, setH, delH, splice, List.set, List.take, List.drop, List.append_eq, List.cons_append, List.nil_append, List.append_nil, List.length, reduceIte, Nat.reduceAdd, Nat.reduceEqDiff]; rfl) (by simp only [Nat.reduceAdd, Nat.add_zero, List.length]; rfl) ?_ | refine GO.step0 rfl rfl rfl (by simp only [happL, setH, delH, splice, List.set, List.take, List.drop, List.append_eq, List.cons_append, List.nil_append, List.append_nil, List.length, reduceIte, Nat.reduceAdd, Nat.reduceEqDiff]; rfl) (by simp only [Nat.reduceAdd, Nat.add_zero, List.length]; rfl) ?_)
  refine GO.done (WK.seq (WK.seq (WK.reg mixed ?_)))
  repeat (first | refine GO.pure rfl rfl rfl rfl (by first | (simp only [Nat.reduceAdd, Nat.reduceMul, List.drop, List.take, List.length, splice, List.set, if_true, if_false, Bool.false_eq_true]; rfl) | rfl) ?_ | refine GO.skip rfl rfl ?_ | refine GO.step rfl rfl rfl rfl (by first | (simp only [Nat.reduceAdd, Nat.reduceMul, List.drop, List.take, List.length, splice, List.set, if_true, if_false, Bool.false_eq_true]; rfl) | rfl) (by simp only [happL, setH, delH, splice, List.set, List.take, List.drop, List.append_eq, List.cons_append, List.nil_append, List.append_nil, List.length, reduceIte, Nat.reduceAdd, Nat.reduceEqDiff]; rfl) (by simp only [Nat.reduceAdd, Nat.add_zero, List.length]; rfl) ?_ | refine GO.step0 rfl rfl rfl (by simp only [happL, setH, delH, splice, List.set, List.take, List.drop, List.append_eq, List.cons_append, List.nil_append, List.append_nil, List.length, reduceIte, Nat.reduceAdd, Nat.reduceEqDiff]; rfl) (by simp only [Nat.reduceAdd, Nat.add_zero, List.length]; rfl) ?_)
  refine GO.done (WK.forK (fun k s => ∃ i, i ≤ l.length ∧ k = l.length - i ∧ s = st21 l d b i) l.length ⟨st21 l d b 0, ?_, 0, Nat.zero_le _, rfl, rfl⟩ ?_)
  · refine Conv.keep [0] [] [0, 1, 2, 7, 8] rfl rfl ?_ rfl rfl
    (repeat (first | refine viewE_cons rfl rfl ?_ | refine viewE_cons rfl (viewP_closed _ _ (by simp [PVal.closed, PVal.closed.go, *])) ?_)); exact viewE_nil
  · rintro k s ⟨i, hi, rfl, rfl⟩ again out Q' hagain hout hQ'
    unfold ac21_1 st21
    refine WK.seq (WK.seq (WK.reg mixed ?_))
    repeat (first | refine GO.pure rfl rfl rfl rfl (by first | (simp only [Nat.reduceAdd, Nat.reduceMul, List.drop, List.take, List.length, splice, List.set, if_true, if_false, Bool.false_eq_true]; rfl) | rfl) ?_ | refine GO.skip rfl rfl ?_ | refine GO.step rfl rfl rfl rfl (by first | (simp only [Nat.reduceAdd, Nat.reduceMul, List.drop, List.take, List.length, splice, List.set, if_true, if_false, Bool.false_eq_true]; rfl) | rfl) (by simp only [happL, setH, delH, splice, List.set, List.take, List.drop, List.append_eq, List.cons_append, List.nil_append, List.append_nil, List.length, reduceIte, Nat.reduceAdd, Nat.reduceEqDiff]; rfl) (by simp only [Nat.reduceAdd, Nat.add_zero, List.length]; rfl) ?_ | refine GO.step0 rfl rfl rfl (by simp only [happL, setH, delH, splice, List.set, List.take, List.drop, List.append_eq, List.cons_append, List.nil_append, List.append_nil, List.length, reduceIte, Nat.reduceAdd, Nat.reduceEqDiff]; rfl) (by simp only [Nat.reduceAdd, Nat.add_zero, List.length]; rfl) ?_)
    refine GO.done (WK.cond rfl (fun hb => ?_) (fun hb => ?_))
    · have hlt : i < l.length := by simpa using hb
      generalize hx : l[i] = x
      have htk := take_next hlt hx
      have hlen : (l.take i).length = i := by simp; omega
      refine WK.skip (WK.seq (WK.blockK fun K1 hK1 => WK.seq (WK.reg mixed ?_)))
      repeat (first | refine GO.pure rfl rfl rfl rfl (by first | (simp only [Nat.reduceAdd, Nat.reduceMul, List.drop, List.take, List.length, splice, List.set, if_true, if_false, Bool.false_eq_true]; rfl) | rfl) ?_ | refine GO.skip rfl rfl ?_ | refine GO.step rfl rfl rfl rfl (by first | (simp only [Nat.reduceAdd, Nat.reduceMul, List.drop, List.take, List.length, splice, List.set, if_true, if_false, Bool.false_eq_true]; rfl) | rfl) (by simp only [happL, setH, delH, splice, List.set, List.take, List.drop, List.append_eq, List.cons_append, List.nil_append, List.append_nil, List.length, reduceIte, Nat.reduceAdd, Nat.reduceEqDiff]; rfl) (by simp only [Nat.reduceAdd, Nat.add_zero, List.length]; rfl) ?_ | refine GO.step0 rfl rfl rfl (by simp only [happL, setH, delH, splice, List.set, List.take, List.drop, List.append_eq, List.cons_append, List.nil_append, List.append_nil, List.length, reduceIte, Nat.reduceAdd, Nat.reduceEqDiff]; rfl) (by simp only [Nat.reduceAdd, Nat.add_zero, List.length]; rfl) ?_)
      refine GO.idx (e := candC x) rfl rfl rfl (Int.natCast_nonneg i) (by simp [hlt, hx]) ?_
      simp only [candC]
      repeat (first | refine GO.pure rfl rfl rfl rfl (by first | (simp only [Nat.reduceAdd, Nat.reduceMul, List.drop, List.take, List.length, splice, List.set, if_true, if_false, Bool.false_eq_true]; rfl) | rfl) ?_ | refine GO.skip rfl rfl ?_ | refine GO.step rfl rfl rfl rfl (by first | (simp only [Nat.reduceAdd, Nat.reduceMul, List.drop, List.take, List.length, splice, List.set, if_true, if_false, Bool.false_eq_true]; rfl) | rfl) (by simp only [happL, setH, delH, splice, List.set, List.take, List.drop, List.append_eq, List.cons_append, List.nil_append, List.append_nil, List.length, reduceIte, Nat.reduceAdd, Nat.reduceEqDiff]; rfl) (by simp only [Nat.reduceAdd, Nat.add_zero, List.length]; rfl) ?_ | refine GO.step0 rfl rfl rfl (by simp only [happL, setH, delH, splice, List.set, List.take, List.drop, List.append_eq, List.cons_append, List.nil_append, List.append_nil, List.length, reduceIte, Nat.reduceAdd, Nat.reduceEqDiff]; rfl) (by simp only [Nat.reduceAdd, Nat.add_zero, List.length]; rfl) ?_)
      refine GO.done (WK.seq (WK.reg mixed ?_))
      repeat (first | refine GO.pure rfl rfl rfl rfl (by first | (simp only [Nat.reduceAdd, Nat.reduceMul, List.drop, List.take, List.length, splice, List.set, if_true, if_false, Bool.false_eq_true]; rfl) | rfl) ?_ | refine GO.skip rfl rfl ?_ | refine GO.step rfl rfl rfl rfl (by first | (simp only [Nat.reduceAdd, Nat.reduceMul, List.drop, List.take, List.length, splice, List.set, if_true, if_false, Bool.false_eq_true]; rfl) | rfl) (by simp only [happL, setH, delH, splice, List.set, List.take, List.drop, List.append_eq, List.cons_append, List.nil_append, List.append_nil, List.length, reduceIte, Nat.reduceAdd, Nat.reduceEqDiff]; rfl) (by simp only [Nat.reduceAdd, Nat.add_zero, List.length]; rfl) ?_ | refine GO.step0 rfl rfl rfl (by simp only [happL, setH, delH, splice, List.set, List.take, List.drop, List.append_eq, List.cons_append, List.nil_append, List.append_nil, List.length, reduceIte, Nat.reduceAdd, Nat.reduceEqDiff]; rfl) (by simp only [Nat.reduceAdd, Nat.add_zero, List.length]; rfl) ?_)
      refine GO.done (WK.seq (WK.reg mixed ?_))
      repeat (first | refine GO.pure rfl rfl rfl rfl (by first | (simp only [Nat.reduceAdd, Nat.reduceMul, List.drop, List.take, List.length, splice, List.set, if_true, if_false, Bool.false_eq_true]; rfl) | rfl) ?_ | refine GO.skip rfl rfl ?_ | refine GO.step rfl rfl rfl rfl (by first | (simp only [Nat.reduceAdd, Nat.reduceMul, List.drop, List.take, List.length, splice, List.set, if_true, if_false, Bool.false_eq_true]; rfl) | rfl) (by simp only [happL, setH, delH, splice, List.set, List.take, List.drop, List.append_eq, List.cons_append, List.nil_append, List.append_nil, List.length, reduceIte, Nat.reduceAdd, Nat.reduceEqDiff]; rfl) (by simp only [Nat.reduceAdd, Nat.add_zero, List.length]; rfl) ?_ | refine GO.step0 rfl rfl rfl (by simp only [happL, setH, delH, splice, List.set, List.take, List.drop, List.append_eq, List.cons_append, List.nil_append, List.append_nil, List.length, reduceIte, Nat.reduceAdd, Nat.reduceEqDiff]; rfl) (by simp only [Nat.reduceAdd, Nat.add_zero, List.length]; rfl) ?_)
      refine GO.done (WK.reg mixed ?_)
      repeat (first | refine GO.pure rfl rfl rfl rfl (by first | (simp only [Nat.reduceAdd, Nat.reduceMul, List.drop, List.take, List.length, splice, List.set, if_true, if_false, Bool.false_eq_true]; rfl) | rfl) ?_ | refine GO.skip rfl rfl ?_ | refine GO.step rfl rfl rfl rfl (by first | (simp only [Nat.reduceAdd, Nat.reduceMul, List.drop, List.take, List.length, splice, List.set, if_true, if_false, Bool.false_eq_true]; rfl) | rfl) (by simp only [happL, setH, delH, splice, List.set, List.take, List.drop, List.append_eq, List.cons_append, List.nil_append, List.append_nil, List.length, reduceIte, Nat.reduceAdd, Nat.reduceEqDiff]; rfl) (by simp only [Nat.reduceAdd, Nat.add_zero, List.length]; rfl) ?_ | refine GO.step0 rfl rfl rfl (by simp only [happL, setH, delH, splice, List.set, List.take, List.drop, List.append_eq, List.cons_append, List.nil_append, List.append_nil, List.length, reduceIte, Nat.reduceAdd, Nat.reduceEqDiff]; rfl) (by simp only [Nat.reduceAdd, Nat.add_zero, List.length]; rfl) ?_)
      refine GO.app (es2 := [candC (stood d b x)]) rfl rfl rfl rfl (by simp only [List.length_map, hlen]) rfl (by simp only [List.length_map, hlen, List.length]; omega) (by simp only [List.length_map, hlen, List.length, maxLen]; omega) rfl (by simp only [happL, setH, delH, reduceIte, Nat.reduceEqDiff]; rfl) rfl ?_
      repeat (first | refine GO.pure rfl rfl rfl rfl (by first | (simp only [Nat.reduceAdd, Nat.reduceMul, List.drop, List.take, List.length, splice, List.set, if_true, if_false, Bool.false_eq_true]; rfl) | rfl) ?_ | refine GO.skip rfl rfl ?_ | refine GO.step rfl rfl rfl rfl (by first | (simp only [Nat.reduceAdd, Nat.reduceMul, List.drop, List.take, List.length, splice, List.set, if_true, if_false, Bool.false_eq_true]; rfl) | rfl) (by simp only [happL, setH, delH, splice, List.set, List.take, List.drop, List.append_eq, List.cons_append, List.nil_append, List.append_nil, List.length, reduceIte, Nat.reduceAdd, Nat.reduceEqDiff]; rfl) (by simp only [Nat.reduceAdd, Nat.add_zero, List.length]; rfl) ?_ | refine GO.step0 rfl rfl rfl (by simp only [happL, setH, delH, splice, List.set, List.take, List.drop, List.append_eq, List.cons_append, List.nil_append, List.append_nil, List.length, reduceIte, Nat.reduceAdd, Nat.reduceEqDiff]; rfl) (by simp only [Nat.reduceAdd, Nat.add_zero, List.length]; rfl) ?_)
      refine GO.done (WK.nil (QF.normal (hK1 _ (WK.reg mixed ?_))))
      repeat (first | refine GO.pure rfl rfl rfl rfl (by first | (simp only [Nat.reduceAdd, Nat.reduceMul, List.drop, List.take, List.length, splice, List.set, if_true, if_false, Bool.false_eq_true]; rfl) | rfl) ?_ | refine GO.skip rfl rfl ?_ | refine GO.step rfl rfl rfl rfl (by first | (simp only [Nat.reduceAdd, Nat.reduceMul, List.drop, List.take, List.length, splice, List.set, if_true, if_false, Bool.false_eq_true]; rfl) | rfl) (by simp only [happL, setH, delH, splice, List.set, List.take, List.drop, List.append_eq, List.cons_append, List.nil_append, List.append_nil, List.length, reduceIte, Nat.reduceAdd, Nat.reduceEqDiff]; rfl) (by simp only [Nat.reduceAdd, Nat.add_zero, List.length]; rfl) ?_ | refine GO.step0 rfl rfl rfl (by simp only [happL, setH, delH, splice, List.set, List.take, List.drop, List.append_eq, List.cons_append, List.nil_append, List.append_nil, List.length, reduceIte, Nat.reduceAdd, Nat.reduceEqDiff]; rfl) (by simp only [Nat.reduceAdd, Nat.add_zero, List.length]; rfl) ?_)
      refine GO.done (WK.nil (QF.normal (hagain _ (l.length - (i + 1)) (st21 l d b (i + 1)) (by omega) ?_ ⟨i + 1, by omega, rfl, rfl⟩)))
      have e1 : ((l.take i).map (stood d b)).map candC ++ [candC (stood d b x)] = ((l.take (i + 1)).map (stood d b)).map candC := by rw [htk]; simp
      simp only [wrap_succ (Nat.lt_trans hlt hl62), List.length_map, hlen, List.length, Nat.zero_add, e1]
      refine Conv.keep [3] [] [0, 1, 2, 7, 8] rfl rfl ?_ rfl rfl
      (repeat (first | refine viewE_cons rfl rfl ?_ | refine viewE_cons rfl (viewP_closed _ _ (by simp [PVal.closed, PVal.closed.go, *])) ?_)); exact viewE_nil
    · refine WK.exit (QF.exit (hout _ ?_))
      have hi' : i = l.length := by
        have : ¬ (i < l.length) := by simpa using hb
        omega
      subst hi'
      rw [List.take_length]
      refine WK.seq (WK.reg mixed ?_)
      repeat (first | refine GO.pure rfl rfl rfl rfl (by first | (simp only [Nat.reduceAdd, Nat.reduceMul, List.drop, List.take, List.length, splice, List.set, if_true, if_false, Bool.false_eq_true]; rfl) | rfl) ?_ | refine GO.skip rfl rfl ?_ | refine GO.step rfl rfl rfl rfl (by first | (simp only [Nat.reduceAdd, Nat.reduceMul, List.drop, List.take, List.length, splice, List.set, if_true, if_false, Bool.false_eq_true]; rfl) | rfl) (by simp only [happL, setH, delH, splice, List.set, List.take, List.drop, List.append_eq, List.cons_append, List.nil_append, List.append_nil, List.length, reduceIte, Nat.reduceAdd, Nat.reduceEqDiff]; rfl) (by simp only [Nat.reduceAdd, Nat.add_zero, List.length]; rfl) ?_ | refine GO.step0 rfl rfl rfl (by simp only [happL, setH, delH, splice, List.set, List.take, List.drop, List.append_eq, List.cons_append, List.nil_append, List.append_nil, List.length, reduceIte, Nat.reduceAdd, Nat.reduceEqDiff]; rfl) (by simp only [Nat.reduceAdd, Nat.add_zero, List.length]; rfl) ?_)
      exact GO.done (WK.ret (RetQ.row (id := 0) (.inr rfl) rfl rfl (by decide)))

/-! ### the plain law -/
theorem top_one (l : List Cand) (hl : ∀ x ∈ l, Ok x) (h : Cand → Bool) (id : Int) (hx : ∃ c ∈ l, h c = true ∧ 0 < c.p) (hu : ∀ x ∈ l, h x = true → x.i = id) : (topS h l).i = id := by
  obtain ⟨c, hc, h1, h2⟩ := hx
  rw [topS_eq h l hl]
  rcases rtop_mem (l.filter fun x => !decide (x.p = 0) && h x) ⟨0, 0, 0, 0⟩ with e | e
  · exfalso
    have hz : (topS h l).i = 0 := by rw [topS_eq h l hl]; unfold rtopS; rw [e]
    exact (top_none l hl h).1 hz c hc h1 h2
  · obtain ⟨g1, g2⟩ := List.mem_filter.1 e
    simp only [Bool.and_eq_true] at g2
    exact hu _ g1 g2.2

/-- All say the same two: these are elected. -/
theorem steady_turn (l : List Cand) (hl : ∀ x ∈ l, Ok x) (d b : Int) (hdb : d ≠ b) (hs : ∀ x ∈ l, (x.d = d ∧ x.b = b) ∨ (x.d = 0 ∧ x.b = 0)) (hd : ∃ c ∈ l, c.i = d ∧ c.d = d ∧ 0 < c.p) (hb : ∃ c ∈ l, c.i = b ∧ c.d = d ∧ c.b = b ∧ 0 < c.p) : firstS l = d ∧ secondS l = b := by
  have hd0 : d ≠ 0 := by obtain ⟨c, hc, h1, _⟩ := hd; have := (hl c hc).1; omega
  have hb0 : b ≠ 0 := by obtain ⟨c, hc, h1, _⟩ := hb; have := (hl c hc).1; omega
  have e33 : (topS h33 l).i = d := by
    refine top_one l hl h33 d ?_ ?_
    · obtain ⟨c, hc, h1, h2, h3⟩ := hd
      exact ⟨c, hc, by simp [h33, h1, h2], h3⟩
    · intro x hx h
      have h' : x.d = x.i := by simpa [h33] using h
      have := (hl x hx).1
      rcases hs x hx with ⟨h1, _⟩ | ⟨h1, _⟩ <;> omega
  have e31 : (topS h31 l).i = b := by
    refine top_one l hl h31 b ?_ ?_
    · obtain ⟨c, hc, h1, h2, h3, h4⟩ := hb
      exact ⟨c, hc, by simp only [h31, Bool.and_eq_true, Bool.not_eq_true', decide_eq_false_iff_not, decide_eq_true_eq]; omega, h4⟩
    · intro x hx h
      simp only [h31, Bool.and_eq_true, Bool.not_eq_true', decide_eq_false_iff_not, decide_eq_true_eq] at h
      have := (hl x hx).1
      rcases hs x hx with ⟨_, h1⟩ | ⟨_, h1⟩ <;> omega
  have hsec : secondS l = b := by
    unfold secondS
    rw [if_neg (by rw [e31]; exact hb0), e31]
  refine ⟨?_, hsec⟩
  unfold firstS
  rw [if_neg (by rw [e33]; exact hd0), e33]
end Go.Proofs.Ytbgnflbbebnagaa.Abs
