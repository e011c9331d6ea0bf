/- has, walked; and what the election says of who is elected. -/
import Derived.Test.YtbgnflbbebnagaaM1
set_option linter.unusedVariables false
set_option linter.unusedSimpArgs false
namespace Go.Proofs.Ytbgnflbbebnagaa.Abs
open Go

def hasS (l : List Cand) (id : Int) : Bool := l.any fun c => decide (c.i = id) && decide (0 < c.p)

def st18 (l : List Cand) (id : Int) (i : Nat) : St := ⟨[(0, .ro 4 (l.map candC)), (1, .int .u32 id), (5, .int .i64 i)], [], 0⟩

theorem f18_ok (l : List Cand) (id : Int) (hl : l.length < 2 ^ 62) : FnOk Try.prog 18 [.ro 4 (l.map candC), .int .u32 id] [] 0 (.bool (hasS l id)) [] 0 := by
  refine FnOk.wk i18 rfl rfl ?_
  unfold ac18
  simp only [paramE, Nat.reduceAdd]
  refine WK.seq (WK.reg mixed ?_)
  repeat (first | refine GO.pure rfl rfl rfl rfl (by first | (simp only [Nat.reduceAdd, Nat.reduceMul, List.drop, List.take, List.length, splice, List.set, if_true, if_false, Bool.false_eq_true]; rfl) | rfl) ?_ | refine GO.skip rfl rfl ?_ | refine GO.step rfl rfl rfl rfl (by first | (simp only [Nat.reduceAdd, Nat.reduceMul, List.drop, List.take, List.length, splice, List.set, if_true, if_false, Bool.false_eq_true]; rfl) | rfl) (by simp only [happL, setH, delH, splice, List.set, List.take, List.drop, List.append_eq, List.cons_append, List.nil_append, List.append_nil, List.length, reduceIte, Nat.reduceAdd, Nat.reduceEqDiff]; rfl) (by simp only [Nat.reduceAdd, Nat.add_zero, List.length]; rfl) ?_ | refine GO.step0 rfl rfl rfl (by simp only [happL, setH, delH, splice, List.set, List.take, List.drop, List.append_eq, List.cons_append, List.nil_append, List.append_nil, List.length, reduceIte, Nat.reduceAdd, Nat.reduceEqDiff]; rfl) (by simp only [Nat.reduceAdd, Nat.add_zero, List.length]; rfl) ?_)
  refine GO.done (WK.seq (WK.seq (WK.reg mixed ?_)))
  repeat (first | refine GO.pure rfl rfl rfl rfl (by first | (simp only [Nat.reduceAdd, Nat.reduceMul, List.drop, List.take, List.length, splice, List.set, if_true, if_false, Bool.false_eq_true]; rfl) | rfl) ?_ | refine GO.skip rfl rfl ?_ | refine GO.step rfl rfl rfl rfl (by first | (simp only [Nat.reduceAdd, Nat.reduceMul, List.drop, List.take, List.length, splice, List.set, if_true, if_false, Bool.false_eq_true]; rfl) | rfl) (by simp only [happL, setH, delH, splice, List.set, List.take, List.drop, List.append_eq, List.cons_append, List.nil_append, List.append_nil, List.length, reduceIte, Nat.reduceAdd, Nat.reduceEqDiff]; rfl) (by simp only [Nat.reduceAdd, Nat.add_zero, List.length]; rfl) ?_ | refine GO.step0 rfl rfl rfl (by simp only [happL, setH, delH, splice, List.set, List.take, List.drop, List.append_eq, List.cons_append, List.nil_append, List.append_nil, List.length, reduceIte, Nat.reduceAdd, Nat.reduceEqDiff]; rfl) (by simp only [Nat.reduceAdd, Nat.add_zero, List.length]; rfl) ?_)
  refine GO.done (WK.forK (fun k s => ∃ i, i ≤ l.length ∧ k = l.length - i ∧ (∀ x ∈ l.take i, (decide (x.i = id) && decide (0 < x.p)) = false) ∧ s = st18 l id i) l.length ⟨st18 l id 0, ?_, 0, Nat.zero_le _, rfl, by simp, rfl⟩ ?_)
  · refine Conv.keep [] [] [0, 1, 5] rfl rfl ?_ rfl rfl
    (repeat (first | refine viewE_cons rfl rfl ?_ | refine viewE_cons rfl (viewP_closed _ _ (by simp [PVal.closed, PVal.closed.go, *])) ?_)); exact viewE_nil
  · rintro k s ⟨i, hi, rfl, hno, rfl⟩ again out Q' hagain hout hQ'
    unfold ac18_1 st18
    refine WK.seq (WK.seq (WK.reg mixed ?_))
    repeat (first | refine GO.pure rfl rfl rfl rfl (by first | (simp only [Nat.reduceAdd, Nat.reduceMul, List.drop, List.take, List.length, splice, List.set, if_true, if_false, Bool.false_eq_true]; rfl) | rfl) ?_ | refine GO.skip rfl rfl ?_ | refine GO.step rfl rfl rfl rfl (by first | (simp only [Nat.reduceAdd, Nat.reduceMul, List.drop, List.take, List.length, splice, List.set, if_true, if_false, Bool.false_eq_true]; rfl) | rfl) (by simp only [happL, setH, delH, splice, List.set, List.take, List.drop, List.append_eq, List.cons_append, List.nil_append, List.append_nil, List.length, reduceIte, Nat.reduceAdd, Nat.reduceEqDiff]; rfl) (by simp only [Nat.reduceAdd, Nat.add_zero, List.length]; rfl) ?_ | refine GO.step0 rfl rfl rfl (by simp only [happL, setH, delH, splice, List.set, List.take, List.drop, List.append_eq, List.cons_append, List.nil_append, List.append_nil, List.length, reduceIte, Nat.reduceAdd, Nat.reduceEqDiff]; rfl) (by simp only [Nat.reduceAdd, Nat.add_zero, List.length]; rfl) ?_)
    refine GO.done (WK.cond rfl (fun hb => ?_) (fun hb => ?_))
    · have hlt : i < l.length := by simpa using hb
      generalize hx : l[i] = x
      have hxm : x ∈ l := hx ▸ List.getElem_mem hlt
      have htk := take_next hlt hx
      refine WK.skip (WK.seq (WK.blockK fun K1 hK1 => WK.seq (WK.reg mixed ?_)))
      repeat (first | refine GO.pure rfl rfl rfl rfl (by first | (simp only [Nat.reduceAdd, Nat.reduceMul, List.drop, List.take, List.length, splice, List.set, if_true, if_false, Bool.false_eq_true]; rfl) | rfl) ?_ | refine GO.skip rfl rfl ?_ | refine GO.step rfl rfl rfl rfl (by first | (simp only [Nat.reduceAdd, Nat.reduceMul, List.drop, List.take, List.length, splice, List.set, if_true, if_false, Bool.false_eq_true]; rfl) | rfl) (by simp only [happL, setH, delH, splice, List.set, List.take, List.drop, List.append_eq, List.cons_append, List.nil_append, List.append_nil, List.length, reduceIte, Nat.reduceAdd, Nat.reduceEqDiff]; rfl) (by simp only [Nat.reduceAdd, Nat.add_zero, List.length]; rfl) ?_ | refine GO.step0 rfl rfl rfl (by simp only [happL, setH, delH, splice, List.set, List.take, List.drop, List.append_eq, List.cons_append, List.nil_append, List.append_nil, List.length, reduceIte, Nat.reduceAdd, Nat.reduceEqDiff]; rfl) (by simp only [Nat.reduceAdd, Nat.add_zero, List.length]; rfl) ?_)
      refine GO.idx (e := candC x) rfl rfl rfl (Int.natCast_nonneg i) (by simp [hlt, hx]) ?_
      simp only [candC]
      repeat (first | refine GO.pure rfl rfl rfl rfl (by first | (simp only [Nat.reduceAdd, Nat.reduceMul, List.drop, List.take, List.length, splice, List.set, if_true, if_false, Bool.false_eq_true]; rfl) | rfl) ?_ | refine GO.skip rfl rfl ?_ | refine GO.step rfl rfl rfl rfl (by first | (simp only [Nat.reduceAdd, Nat.reduceMul, List.drop, List.take, List.length, splice, List.set, if_true, if_false, Bool.false_eq_true]; rfl) | rfl) (by simp only [happL, setH, delH, splice, List.set, List.take, List.drop, List.append_eq, List.cons_append, List.nil_append, List.append_nil, List.length, reduceIte, Nat.reduceAdd, Nat.reduceEqDiff]; rfl) (by simp only [Nat.reduceAdd, Nat.add_zero, List.length]; rfl) ?_ | refine GO.step0 rfl rfl rfl (by simp only [happL, setH, delH, splice, List.set, List.take, List.drop, List.append_eq, List.cons_append, List.nil_append, List.append_nil, List.length, reduceIte, Nat.reduceAdd, Nat.reduceEqDiff]; rfl) (by simp only [Nat.reduceAdd, Nat.add_zero, List.length]; rfl) ?_)
      by_cases h1 : x.i = id
      · have h1d : decide (x.i = id) = true := by simp [h1]
        simp only [h1d]
        repeat (first | refine GO.pure rfl rfl rfl rfl (by first | (simp only [Nat.reduceAdd, Nat.reduceMul, List.drop, List.take, List.length, splice, List.set, if_true, if_false, Bool.false_eq_true]; rfl) | rfl) ?_ | refine GO.skip rfl rfl ?_ | refine GO.step rfl rfl rfl rfl (by first | (simp only [Nat.reduceAdd, Nat.reduceMul, List.drop, List.take, List.length, splice, List.set, if_true, if_false, Bool.false_eq_true]; rfl) | rfl) (by simp only [happL, setH, delH, splice, List.set, List.take, List.drop, List.append_eq, List.cons_append, List.nil_append, List.append_nil, List.length, reduceIte, Nat.reduceAdd, Nat.reduceEqDiff]; rfl) (by simp only [Nat.reduceAdd, Nat.add_zero, List.length]; rfl) ?_ | refine GO.step0 rfl rfl rfl (by simp only [happL, setH, delH, splice, List.set, List.take, List.drop, List.append_eq, List.cons_append, List.nil_append, List.append_nil, List.length, reduceIte, Nat.reduceAdd, Nat.reduceEqDiff]; rfl) (by simp only [Nat.reduceAdd, Nat.add_zero, List.length]; rfl) ?_)
        refine GO.idx (e := candC x) rfl rfl rfl (Int.natCast_nonneg i) (by simp [hlt, hx]) ?_
        simp only [candC]
        repeat (first | refine GO.pure rfl rfl rfl rfl (by first | (simp only [Nat.reduceAdd, Nat.reduceMul, List.drop, List.take, List.length, splice, List.set, if_true, if_false, Bool.false_eq_true]; rfl) | rfl) ?_ | refine GO.skip rfl rfl ?_ | refine GO.step rfl rfl rfl rfl (by first | (simp only [Nat.reduceAdd, Nat.reduceMul, List.drop, List.take, List.length, splice, List.set, if_true, if_false, Bool.false_eq_true]; rfl) | rfl) (by simp only [happL, setH, delH, splice, List.set, List.take, List.drop, List.append_eq, List.cons_append, List.nil_append, List.append_nil, List.length, reduceIte, Nat.reduceAdd, Nat.reduceEqDiff]; rfl) (by simp only [Nat.reduceAdd, Nat.add_zero, List.length]; rfl) ?_ | refine GO.step0 rfl rfl rfl (by simp only [happL, setH, delH, splice, List.set, List.take, List.drop, List.append_eq, List.cons_append, List.nil_append, List.append_nil, List.length, reduceIte, Nat.reduceAdd, Nat.reduceEqDiff]; rfl) (by simp only [Nat.reduceAdd, Nat.add_zero, List.length]; rfl) ?_)
        by_cases h2 : 0 < x.p
        · have h2d : decide (0 < x.p) = true := by simp [h2]
          simp only [h2d]
          refine GO.done (WK.condT rfl (WK.seq (WK.reg mixed ?_)))
          repeat (first | refine GO.pure rfl rfl rfl rfl (by first | (simp only [Nat.reduceAdd, Nat.reduceMul, List.drop, List.take, List.length, splice, List.set, if_true, if_false, Bool.false_eq_true]; rfl) | rfl) ?_ | refine GO.skip rfl rfl ?_ | refine GO.step rfl rfl rfl rfl (by first | (simp only [Nat.reduceAdd, Nat.reduceMul, List.drop, List.take, List.length, splice, List.set, if_true, if_false, Bool.false_eq_true]; rfl) | rfl) (by simp only [happL, setH, delH, splice, List.set, List.take, List.drop, List.append_eq, List.cons_append, List.nil_append, List.append_nil, List.length, reduceIte, Nat.reduceAdd, Nat.reduceEqDiff]; rfl) (by simp only [Nat.reduceAdd, Nat.add_zero, List.length]; rfl) ?_ | refine GO.step0 rfl rfl rfl (by simp only [happL, setH, delH, splice, List.set, List.take, List.drop, List.append_eq, List.cons_append, List.nil_append, List.append_nil, List.length, reduceIte, Nat.reduceAdd, Nat.reduceEqDiff]; rfl) (by simp only [Nat.reduceAdd, Nat.add_zero, List.length]; rfl) ?_)
          refine GO.done (WK.ret (QF.ret (QF.ret (hQ' _ _ (RetQ.pure (.inr rfl) rfl rfl ?_ rfl)))))
          have : hasS l id = true := List.any_eq_true.2 ⟨x, hxm, by simp [h1, h2]⟩
          rw [this]
          rfl
        · have h2d : decide (0 < x.p) = false := by simp [h2]
          simp only [h2d]
          refine GO.done (WK.condF rfl (WK.skip (WK.nil (QF.normal (hK1 _ (WK.reg mixed ?_))))))
          repeat (first | refine GO.pure rfl rfl rfl rfl (by first | (simp only [Nat.reduceAdd, Nat.reduceMul, List.drop, List.take, List.length, splice, List.set, if_true, if_false, Bool.false_eq_true]; rfl) | rfl) ?_ | refine GO.skip rfl rfl ?_ | refine GO.step rfl rfl rfl rfl (by first | (simp only [Nat.reduceAdd, Nat.reduceMul, List.drop, List.take, List.length, splice, List.set, if_true, if_false, Bool.false_eq_true]; rfl) | rfl) (by simp only [happL, setH, delH, splice, List.set, List.take, List.drop, List.append_eq, List.cons_append, List.nil_append, List.append_nil, List.length, reduceIte, Nat.reduceAdd, Nat.reduceEqDiff]; rfl) (by simp only [Nat.reduceAdd, Nat.add_zero, List.length]; rfl) ?_ | refine GO.step0 rfl rfl rfl (by simp only [happL, setH, delH, splice, List.set, List.take, List.drop, List.append_eq, List.cons_append, List.nil_append, List.append_nil, List.length, reduceIte, Nat.reduceAdd, Nat.reduceEqDiff]; rfl) (by simp only [Nat.reduceAdd, Nat.add_zero, List.length]; rfl) ?_)
          refine GO.done (WK.nil (QF.normal (hagain _ (l.length - (i + 1)) (st18 l id (i + 1)) (by omega) ?_ ⟨i + 1, by omega, rfl, ?_, rfl⟩)))
          · simp only [wrap_succ (Nat.lt_trans hlt hl)]
            refine Conv.keep [] [] [0, 1, 5] rfl rfl ?_ rfl rfl
            (repeat (first | refine viewE_cons rfl rfl ?_ | refine viewE_cons rfl (viewP_closed _ _ (by simp [PVal.closed, PVal.closed.go, *])) ?_)); exact viewE_nil
          · intro y hy
            rw [htk] at hy
            rcases List.mem_append.1 hy with hy | hy
            · exact hno y hy
            · simp at hy; rw [hy, h2d, Bool.and_false]
      · have h1d : decide (x.i = id) = false := by simp [h1]
        simp only [h1d]
        repeat (first | refine GO.pure rfl rfl rfl rfl (by first | (simp only [Nat.reduceAdd, Nat.reduceMul, List.drop, List.take, List.length, splice, List.set, if_true, if_false, Bool.false_eq_true]; rfl) | rfl) ?_ | refine GO.skip rfl rfl ?_ | refine GO.step rfl rfl rfl rfl (by first | (simp only [Nat.reduceAdd, Nat.reduceMul, List.drop, List.take, List.length, splice, List.set, if_true, if_false, Bool.false_eq_true]; rfl) | rfl) (by simp only [happL, setH, delH, splice, List.set, List.take, List.drop, List.append_eq, List.cons_append, List.nil_append, List.append_nil, List.length, reduceIte, Nat.reduceAdd, Nat.reduceEqDiff]; rfl) (by simp only [Nat.reduceAdd, Nat.add_zero, List.length]; rfl) ?_ | refine GO.step0 rfl rfl rfl (by simp only [happL, setH, delH, splice, List.set, List.take, List.drop, List.append_eq, List.cons_append, List.nil_append, List.append_nil, List.length, reduceIte, Nat.reduceAdd, Nat.reduceEqDiff]; rfl) (by simp only [Nat.reduceAdd, Nat.add_zero, List.length]; rfl) ?_)
        refine GO.done (WK.condF rfl (WK.skip (WK.nil (QF.normal (hK1 _ (WK.reg mixed ?_))))))
        repeat (first | refine GO.pure rfl rfl rfl rfl (by first | (simp only [Nat.reduceAdd, Nat.reduceMul, List.drop, List.take, List.length, splice, List.set, if_true, if_false, Bool.false_eq_true]; rfl) | rfl) ?_ | refine GO.skip rfl rfl ?_ | refine GO.step rfl rfl rfl rfl (by first | (simp only [Nat.reduceAdd, Nat.reduceMul, List.drop, List.take, List.length, splice, List.set, if_true, if_false, Bool.false_eq_true]; rfl) | rfl) (by simp only [happL, setH, delH, splice, List.set, List.take, List.drop, List.append_eq, List.cons_append, List.nil_append, List.append_nil, List.length, reduceIte, Nat.reduceAdd, Nat.reduceEqDiff]; rfl) (by simp only [Nat.reduceAdd, Nat.add_zero, List.length]; rfl) ?_ | refine GO.step0 rfl rfl rfl (by simp only [happL, setH, delH, splice, List.set, List.take, List.drop, List.append_eq, List.cons_append, List.nil_append, List.append_nil, List.length, reduceIte, Nat.reduceAdd, Nat.reduceEqDiff]; rfl) (by simp only [Nat.reduceAdd, Nat.add_zero, List.length]; rfl) ?_)
        refine GO.done (WK.nil (QF.normal (hagain _ (l.length - (i + 1)) (st18 l id (i + 1)) (by omega) ?_ ⟨i + 1, by omega, rfl, ?_, rfl⟩)))
        · simp only [wrap_succ (Nat.lt_trans hlt hl)]
          refine Conv.keep [] [] [0, 1, 5] rfl rfl ?_ rfl rfl
          (repeat (first | refine viewE_cons rfl rfl ?_ | refine viewE_cons rfl (viewP_closed _ _ (by simp [PVal.closed, PVal.closed.go, *])) ?_)); exact viewE_nil
        · intro y hy
          rw [htk] at hy
          rcases List.mem_append.1 hy with hy | hy
          · exact hno y hy
          · simp at hy; rw [hy, h1d, Bool.false_and]
    · refine WK.exit (QF.exit (hout _ ?_))
      have hi' : i = l.length := by
        have : ¬ (i < l.length) := by simpa using hb
        omega
      subst hi'
      rw [List.take_length] at hno
      refine WK.seq (WK.reg mixed ?_)
      repeat (first | refine GO.pure rfl rfl rfl rfl (by first | (simp only [Nat.reduceAdd, Nat.reduceMul, List.drop, List.take, List.length, splice, List.set, if_true, if_false, Bool.false_eq_true]; rfl) | rfl) ?_ | refine GO.skip rfl rfl ?_ | refine GO.step rfl rfl rfl rfl (by first | (simp only [Nat.reduceAdd, Nat.reduceMul, List.drop, List.take, List.length, splice, List.set, if_true, if_false, Bool.false_eq_true]; rfl) | rfl) (by simp only [happL, setH, delH, splice, List.set, List.take, List.drop, List.append_eq, List.cons_append, List.nil_append, List.append_nil, List.length, reduceIte, Nat.reduceAdd, Nat.reduceEqDiff]; rfl) (by simp only [Nat.reduceAdd, Nat.add_zero, List.length]; rfl) ?_ | refine GO.step0 rfl rfl rfl (by simp only [happL, setH, delH, splice, List.set, List.take, List.drop, List.append_eq, List.cons_append, List.nil_append, List.append_nil, List.length, reduceIte, Nat.reduceAdd, Nat.reduceEqDiff]; rfl) (by simp only [Nat.reduceAdd, Nat.add_zero, List.length]; rfl) ?_)
      refine GO.done (WK.ret (RetQ.pure (.inr rfl) rfl rfl ?_ rfl))
      have : hasS l id = false := List.any_eq_false.2 fun x hx => by rw [hno x hx]; simp
      rw [this]
      rfl

/-! ### who is elected -/
theorem rtop_mem : ∀ (l : List Cand) (b : Cand), l.foldl rtopStep b = b ∨ l.foldl rtopStep b ∈ l
  | [], b => .inl rfl
  | x :: r, b => by
    rw [List.foldl_cons]
    rcases rtop_mem r (rtopStep b x) with h | h
    · rw [h]
      unfold rtopStep
      split
      · exact .inr List.mem_cons_self
      · exact .inl rfl
    · exact .inr (List.mem_cons_of_mem _ h)

/-- Who is on top of some of them is one of them, or nobody is. -/
theorem top_has (l : List Cand) (hl : ∀ x ∈ l, Ok x) (h : Cand → Bool) (hz : (topS h l).i ≠ 0) : hasS l (topS h l).i = true := by
  rw [topS_eq h l hl] at hz ⊢
  rcases rtop_mem (l.filter fun x => !decide (x.p = 0) && h x) ⟨0, 0, 0, 0⟩ with e | e
  · exact absurd (by unfold rtopS; rw [e]) hz
  · obtain ⟨h1, h2⟩ := List.mem_filter.1 e
    simp only [Bool.and_eq_true, Bool.not_eq_true', decide_eq_false_iff_not] at h2
    refine List.any_eq_true.2 ⟨_, h1, ?_⟩
    have := (hl _ h1).2
    simp only [rtopS, decide_true, Bool.true_and, decide_eq_true_eq]
    have h3 := h2.1
    omega

/-- Nobody is on top just if nobody of them has a priority. -/
theorem top_none (l : List Cand) (hl : ∀ x ∈ l, Ok x) (h : Cand → Bool) : (topS h l).i = 0 ↔ ∀ x ∈ l, h x = true → ¬ 0 < x.p := by
  rw [topS_eq h l hl, top_zero l hl h, List.length_eq_zero_iff, List.filter_eq_nil_iff]
  refine forall_congr' fun x => forall_congr' fun hx => ?_
  have := (hl x hx).2
  simp only [Bool.and_eq_true, Bool.not_eq_true', decide_eq_false_iff_not, not_and]
  constructor
  · intro h1 h2 h3
    exact h1 (by omega) h2
  · intro h1 h2 h3
    exact h1 h3 (by omega)

def anyS (l : List Cand) : Bool := l.any fun c => decide (0 < c.p)

theorem second_has (l : List Cand) (hl : ∀ x ∈ l, Ok x) (hz : secondS l ≠ 0) : hasS l (secondS l) = true := by
  unfold secondS at hz ⊢
  split
  · rename_i h; rw [if_pos h] at hz; exact top_has l hl _ hz
  · rename_i h; exact top_has l hl _ h

theorem first_has (l : List Cand) (hl : ∀ x ∈ l, Ok x) (hz : firstS l ≠ 0) : hasS l (firstS l) = true := by
  unfold firstS at hz ⊢
  split
  · rename_i h; rw [if_pos h] at hz; exact second_has l hl hz
  · rename_i h; exact top_has l hl _ h

theorem first_any (l : List Cand) (hl : ∀ x ∈ l, Ok x) : (!decide (firstS l = 0)) = anyS l := by
  have key : firstS l = 0 ↔ ∀ x ∈ l, ¬ 0 < x.p := by
    constructor
    · intro hz x hx hp
      have e33 : (topS h33 l).i = 0 := Decidable.byContradiction fun h => by
        unfold firstS at hz; rw [if_neg h] at hz; exact h hz
      have hs : secondS l = 0 := by unfold firstS at hz; rw [if_pos e33] at hz; exact hz
      have e31 : (topS h31 l).i = 0 := Decidable.byContradiction fun h => by
        unfold secondS at hs; rw [if_neg h] at hs; exact h hs
      have e32 : (topS h32 l).i = 0 := by unfold secondS at hs; rw [if_pos e31] at hs; exact hs
      by_cases hd : x.d = x.i
      · exact (top_none l hl h33).1 e33 x hx (by simp [h33, hd]) hp
      · exact (top_none l hl h32).1 e32 x hx (by simp [h32, hd]) hp
    · intro h
      have e : ∀ g, (topS g l).i = 0 := fun g => (top_none l hl g).2 fun x hx _ => h x hx
      unfold firstS secondS
      rw [if_pos (e _), if_pos (e _)]
      exact e _
  cases ha : anyS l
  · have : firstS l = 0 := key.2 fun x hx hp => by
      have := List.any_eq_false.1 ha x hx
      simp [hp] at this
    simp [this]
  · obtain ⟨x, hx, hp⟩ := List.any_eq_true.1 ha
    have : ¬ firstS l = 0 := fun h => key.1 h x hx (by simpa using hp)
    simp [this]

theorem speak_any (l : List Cand) (hm : mayS l = true) : (!decide (speakS l = 0)) = anyS l := by
  have hl := may_ok hm
  have key := top_none l hl (fun _ => true)
  unfold speakS
  rw [hm]
  simp only [if_true]
  cases ha : anyS l
  · have : (topS (fun _ => true) l).i = 0 := key.2 fun x hx _ hp => by
      have := List.any_eq_false.1 ha x hx
      simp [hp] at this
    simp [this]
  · obtain ⟨x, hx, hp⟩ := List.any_eq_true.1 ha
    have : ¬ (topS (fun _ => true) l).i = 0 := fun h => key.1 h x hx rfl (by simpa using hp)
    simp [this]
end Go.Proofs.Ytbgnflbbebnagaa.Abs
