/- The document's election, walked. -/
import Derived.Test.YtbgnflbbebnagaaE5
set_option linter.unusedVariables false
set_option linter.unusedSimpArgs false
namespace Go.Proofs.Ytbgnflbbebnagaa.Abs
open Go

def wants (own f s : Int) (c : Cand) : Bool := decide (c.i = own) && !agree c own f s
def told (l : List Cand) (i : Nat) (x : Cand) : List Cand := l.set i ⟨x.i, x.p, rfirstS l, rsecondS l⟩
def electR (l : List Cand) (own : Int) : Int × Int :=
  if mayS l then
    match l.findIdx? (wants own (rfirstS l) (rsecondS l)) with
    | none => (rfirstS l, rsecondS l)
    | some i => match l[i]? with
      | some x => (rfirstS (told l i x), rsecondS (told l i x))
      | none => (0, 0)
  else (0, 0)

def st12 (l : List Cand) (own : Int) (i : Nat) : St :=
  ⟨[(1, .int .u32 own), (6, .int .u32 (rfirstS l)), (7, .int .u32 (rsecondS l)), (8, .own 0 4 0 l.length), (9, .int .i64 i)], [(0, .row 4 45 (l.map candC))], 1⟩

theorem f12_ok (l : List Cand) (own : Int) (hl : l.length < 2 ^ 40) : FnOk Try.prog 12 [.ro 4 (l.map candC), .int .u32 own] [] 0 (pairQ (electR l own)) [] 0 := by
  have hl62 : l.length < 2 ^ 62 := Nat.lt_trans hl (by decide)
  refine FnOk.wk i12 rfl rfl ?_
  unfold ac12
  simp only [paramE, Nat.reduceAdd]
  refine WK.seq (WK.reg mixed ?_)
  repeat (first | refine GO.pure rfl rfl rfl rfl (by first | (simp only [Nat.reduceAdd, Nat.reduceMul, List.drop, List.take, List.length, splice, List.set, if_true, if_false, Bool.false_eq_true]; rfl) | rfl) ?_ | refine GO.skip rfl rfl ?_ | refine GO.step rfl rfl rfl rfl (by first | (simp only [Nat.reduceAdd, Nat.reduceMul, List.drop, List.take, List.length, splice, List.set, if_true, if_false, Bool.false_eq_true]; rfl) | rfl) (by simp only [happL, setH, delH, splice, List.set, List.take, List.drop, List.append_eq, List.cons_append, List.nil_append, List.append_nil, List.length, reduceIte, Nat.reduceAdd, Nat.reduceEqDiff]; rfl) (by simp only [Nat.reduceAdd, Nat.add_zero, List.length]; rfl) ?_ | refine GO.step0 rfl rfl rfl (by simp only [happL, setH, delH, splice, List.set, List.take, List.drop, List.append_eq, List.cons_append, List.nil_append, List.append_nil, List.length, reduceIte, Nat.reduceAdd, Nat.reduceEqDiff]; rfl) (by simp only [Nat.reduceAdd, Nat.add_zero, List.length]; rfl) ?_)
  refine GO.done (WK.seq (WK.seq (WK.reg mixed ?_)))
  repeat (first | refine GO.pure rfl rfl rfl rfl (by first | (simp only [Nat.reduceAdd, Nat.reduceMul, List.drop, List.take, List.length, splice, List.set, if_true, if_false, Bool.false_eq_true]; rfl) | rfl) ?_ | refine GO.skip rfl rfl ?_ | refine GO.step rfl rfl rfl rfl (by first | (simp only [Nat.reduceAdd, Nat.reduceMul, List.drop, List.take, List.length, splice, List.set, if_true, if_false, Bool.false_eq_true]; rfl) | rfl) (by simp only [happL, setH, delH, splice, List.set, List.take, List.drop, List.append_eq, List.cons_append, List.nil_append, List.append_nil, List.length, reduceIte, Nat.reduceAdd, Nat.reduceEqDiff]; rfl) (by simp only [Nat.reduceAdd, Nat.add_zero, List.length]; rfl) ?_ | refine GO.step0 rfl rfl rfl (by simp only [happL, setH, delH, splice, List.set, List.take, List.drop, List.append_eq, List.cons_append, List.nil_append, List.append_nil, List.length, reduceIte, Nat.reduceAdd, Nat.reduceEqDiff]; rfl) (by simp only [Nat.reduceAdd, Nat.add_zero, List.length]; rfl) ?_)
  refine GO.callp rfl rfl rfl (f17_ok l hl62) rfl rfl ?_
  repeat (first | refine GO.pure rfl rfl rfl rfl (by first | (simp only [Nat.reduceAdd, Nat.reduceMul, List.drop, List.take, List.length, splice, List.set, if_true, if_false, Bool.false_eq_true]; rfl) | rfl) ?_ | refine GO.skip rfl rfl ?_ | refine GO.step rfl rfl rfl rfl (by first | (simp only [Nat.reduceAdd, Nat.reduceMul, List.drop, List.take, List.length, splice, List.set, if_true, if_false, Bool.false_eq_true]; rfl) | rfl) (by simp only [happL, setH, delH, splice, List.set, List.take, List.drop, List.append_eq, List.cons_append, List.nil_append, List.append_nil, List.length, reduceIte, Nat.reduceAdd, Nat.reduceEqDiff]; rfl) (by simp only [Nat.reduceAdd, Nat.add_zero, List.length]; rfl) ?_ | refine GO.step0 rfl rfl rfl (by simp only [happL, setH, delH, splice, List.set, List.take, List.drop, List.append_eq, List.cons_append, List.nil_append, List.append_nil, List.length, reduceIte, Nat.reduceAdd, Nat.reduceEqDiff]; rfl) (by simp only [Nat.reduceAdd, Nat.add_zero, List.length]; rfl) ?_)
  cases hm : mayS l
  · refine GO.done (WK.condT rfl (WK.seq (WK.reg mixed ?_)))
    repeat (first | refine GO.pure rfl rfl rfl rfl (by first | (simp only [Nat.reduceAdd, Nat.reduceMul, List.drop, List.take, List.length, splice, List.set, if_true, if_false, Bool.false_eq_true]; rfl) | rfl) ?_ | refine GO.skip rfl rfl ?_ | refine GO.step rfl rfl rfl rfl (by first | (simp only [Nat.reduceAdd, Nat.reduceMul, List.drop, List.take, List.length, splice, List.set, if_true, if_false, Bool.false_eq_true]; rfl) | rfl) (by simp only [happL, setH, delH, splice, List.set, List.take, List.drop, List.append_eq, List.cons_append, List.nil_append, List.append_nil, List.length, reduceIte, Nat.reduceAdd, Nat.reduceEqDiff]; rfl) (by simp only [Nat.reduceAdd, Nat.add_zero, List.length]; rfl) ?_ | refine GO.step0 rfl rfl rfl (by simp only [happL, setH, delH, splice, List.set, List.take, List.drop, List.append_eq, List.cons_append, List.nil_append, List.append_nil, List.length, reduceIte, Nat.reduceAdd, Nat.reduceEqDiff]; rfl) (by simp only [Nat.reduceAdd, Nat.add_zero, List.length]; rfl) ?_)
    refine GO.done (WK.ret (RetQ.pure (.inr rfl) rfl rfl ?_ rfl))
    simp [electR, hm, pairQ, pairP, retV]
  refine GO.done (WK.condF rfl (WK.skip (WK.seq (WK.reg mixed ?_))))
  repeat (first | refine GO.pure rfl rfl rfl rfl (by first | (simp only [Nat.reduceAdd, Nat.reduceMul, List.drop, List.take, List.length, splice, List.set, if_true, if_false, Bool.false_eq_true]; rfl) | rfl) ?_ | refine GO.skip rfl rfl ?_ | refine GO.step rfl rfl rfl rfl (by first | (simp only [Nat.reduceAdd, Nat.reduceMul, List.drop, List.take, List.length, splice, List.set, if_true, if_false, Bool.false_eq_true]; rfl) | rfl) (by simp only [happL, setH, delH, splice, List.set, List.take, List.drop, List.append_eq, List.cons_append, List.nil_append, List.append_nil, List.length, reduceIte, Nat.reduceAdd, Nat.reduceEqDiff]; rfl) (by simp only [Nat.reduceAdd, Nat.add_zero, List.length]; rfl) ?_ | refine GO.step0 rfl rfl rfl (by simp only [happL, setH, delH, splice, List.set, List.take, List.drop, List.append_eq, List.cons_append, List.nil_append, List.append_nil, List.length, reduceIte, Nat.reduceAdd, Nat.reduceEqDiff]; rfl) (by simp only [Nat.reduceAdd, Nat.add_zero, List.length]; rfl) ?_)
  refine GO.callp rfl rfl rfl (f24_ok l hl) rfl rfl ?_
  repeat (first | refine GO.pure rfl rfl rfl rfl (by first | (simp only [Nat.reduceAdd, Nat.reduceMul, List.drop, List.take, List.length, splice, List.set, if_true, if_false, Bool.false_eq_true]; rfl) | rfl) ?_ | refine GO.skip rfl rfl ?_ | refine GO.step rfl rfl rfl rfl (by first | (simp only [Nat.reduceAdd, Nat.reduceMul, List.drop, List.take, List.length, splice, List.set, if_true, if_false, Bool.false_eq_true]; rfl) | rfl) (by simp only [happL, setH, delH, splice, List.set, List.take, List.drop, List.append_eq, List.cons_append, List.nil_append, List.append_nil, List.length, reduceIte, Nat.reduceAdd, Nat.reduceEqDiff]; rfl) (by simp only [Nat.reduceAdd, Nat.add_zero, List.length]; rfl) ?_ | refine GO.step0 rfl rfl rfl (by simp only [happL, setH, delH, splice, List.set, List.take, List.drop, List.append_eq, List.cons_append, List.nil_append, List.append_nil, List.length, reduceIte, Nat.reduceAdd, Nat.reduceEqDiff]; rfl) (by simp only [Nat.reduceAdd, Nat.add_zero, List.length]; rfl) ?_)
  refine GO.done (WK.seq (WK.reg mixed ?_))
  repeat (first | refine GO.pure rfl rfl rfl rfl (by first | (simp only [Nat.reduceAdd, Nat.reduceMul, List.drop, List.take, List.length, splice, List.set, if_true, if_false, Bool.false_eq_true]; rfl) | rfl) ?_ | refine GO.skip rfl rfl ?_ | refine GO.step rfl rfl rfl rfl (by first | (simp only [Nat.reduceAdd, Nat.reduceMul, List.drop, List.take, List.length, splice, List.set, if_true, if_false, Bool.false_eq_true]; rfl) | rfl) (by simp only [happL, setH, delH, splice, List.set, List.take, List.drop, List.append_eq, List.cons_append, List.nil_append, List.append_nil, List.length, reduceIte, Nat.reduceAdd, Nat.reduceEqDiff]; rfl) (by simp only [Nat.reduceAdd, Nat.add_zero, List.length]; rfl) ?_ | refine GO.step0 rfl rfl rfl (by simp only [happL, setH, delH, splice, List.set, List.take, List.drop, List.append_eq, List.cons_append, List.nil_append, List.append_nil, List.length, reduceIte, Nat.reduceAdd, Nat.reduceEqDiff]; rfl) (by simp only [Nat.reduceAdd, Nat.add_zero, List.length]; rfl) ?_)
  refine GO.app (es2 := l.map candC) rfl rfl rfl rfl rfl rfl (by simp only [List.length_map, List.length]; omega) (by simp only [List.length_map, List.length, maxLen]; omega) rfl (by simp only [happL, setH, delH, reduceIte, Nat.reduceEqDiff]; rfl) rfl ?_
  repeat (first | refine GO.pure rfl rfl rfl rfl (by first | (simp only [Nat.reduceAdd, Nat.reduceMul, List.drop, List.take, List.length, splice, List.set, if_true, if_false, Bool.false_eq_true]; rfl) | rfl) ?_ | refine GO.skip rfl rfl ?_ | refine GO.step rfl rfl rfl rfl (by first | (simp only [Nat.reduceAdd, Nat.reduceMul, List.drop, List.take, List.length, splice, List.set, if_true, if_false, Bool.false_eq_true]; rfl) | rfl) (by simp only [happL, setH, delH, splice, List.set, List.take, List.drop, List.append_eq, List.cons_append, List.nil_append, List.append_nil, List.length, reduceIte, Nat.reduceAdd, Nat.reduceEqDiff]; rfl) (by simp only [Nat.reduceAdd, Nat.add_zero, List.length]; rfl) ?_ | refine GO.step0 rfl rfl rfl (by simp only [happL, setH, delH, splice, List.set, List.take, List.drop, List.append_eq, List.cons_append, List.nil_append, List.append_nil, List.length, reduceIte, Nat.reduceAdd, Nat.reduceEqDiff]; rfl) (by simp only [Nat.reduceAdd, Nat.add_zero, List.length]; rfl) ?_)
  refine GO.done (WK.seq (WK.seq (WK.reg mixed ?_)))
  repeat (first | refine GO.pure rfl rfl rfl rfl (by first | (simp only [Nat.reduceAdd, Nat.reduceMul, List.drop, List.take, List.length, splice, List.set, if_true, if_false, Bool.false_eq_true]; rfl) | rfl) ?_ | refine GO.skip rfl rfl ?_ | refine GO.step rfl rfl rfl rfl (by first | (simp only [Nat.reduceAdd, Nat.reduceMul, List.drop, List.take, List.length, splice, List.set, if_true, if_false, Bool.false_eq_true]; rfl) | rfl) (by simp only [happL, setH, delH, splice, List.set, List.take, List.drop, List.append_eq, List.cons_append, List.nil_append, List.append_nil, List.length, reduceIte, Nat.reduceAdd, Nat.reduceEqDiff]; rfl) (by simp only [Nat.reduceAdd, Nat.add_zero, List.length]; rfl) ?_ | refine GO.step0 rfl rfl rfl (by simp only [happL, setH, delH, splice, List.set, List.take, List.drop, List.append_eq, List.cons_append, List.nil_append, List.append_nil, List.length, reduceIte, Nat.reduceAdd, Nat.reduceEqDiff]; rfl) (by simp only [Nat.reduceAdd, Nat.add_zero, List.length]; rfl) ?_)
  refine GO.done (WK.forK (fun k s => ∃ i, i ≤ l.length ∧ k = l.length - i ∧ (∀ x ∈ l.take i, wants own (rfirstS l) (rsecondS l) x = false) ∧ s = st12 l own i) l.length ⟨st12 l own 0, ?_, 0, Nat.zero_le _, rfl, by simp, rfl⟩ ?_)
  · simp only [List.length_map, List.length, Nat.zero_add, List.nil_append]
    refine Conv.keep [1] [] [1, 6, 7, 8, 9] rfl rfl ?_ rfl rfl
    (repeat (first | refine viewE_cons rfl rfl ?_ | refine viewE_cons rfl (viewP_closed _ _ (by simp [PVal.closed, PVal.closed.go, *])) ?_)); exact viewE_nil
  · rintro k s ⟨i, hi, rfl, hno, rfl⟩ again out Q' hagain hout hQ'
    unfold ac12_1 st12
    refine WK.seq (WK.seq (WK.reg mixed ?_))
    repeat (first | refine GO.pure rfl rfl rfl rfl (by first | (simp only [Nat.reduceAdd, Nat.reduceMul, List.drop, List.take, List.length, splice, List.set, if_true, if_false, Bool.false_eq_true]; rfl) | rfl) ?_ | refine GO.skip rfl rfl ?_ | refine GO.step rfl rfl rfl rfl (by first | (simp only [Nat.reduceAdd, Nat.reduceMul, List.drop, List.take, List.length, splice, List.set, if_true, if_false, Bool.false_eq_true]; rfl) | rfl) (by simp only [happL, setH, delH, splice, List.set, List.take, List.drop, List.append_eq, List.cons_append, List.nil_append, List.append_nil, List.length, reduceIte, Nat.reduceAdd, Nat.reduceEqDiff]; rfl) (by simp only [Nat.reduceAdd, Nat.add_zero, List.length]; rfl) ?_ | refine GO.step0 rfl rfl rfl (by simp only [happL, setH, delH, splice, List.set, List.take, List.drop, List.append_eq, List.cons_append, List.nil_append, List.append_nil, List.length, reduceIte, Nat.reduceAdd, Nat.reduceEqDiff]; rfl) (by simp only [Nat.reduceAdd, Nat.add_zero, List.length]; rfl) ?_)
    refine GO.done (WK.cond rfl (fun hb => ?_) (fun hb => ?_))
    · have hlt : i < l.length := by simpa using hb
      generalize hx : l[i] = x
      have hget : l[i]? = some x := by rw [List.getElem?_eq_getElem hlt, hx]
      have htk := take_next hlt hx
      have nxt : wants own (rfirstS l) (rsecondS l) x = false → ∀ y ∈ l.take (i + 1), wants own (rfirstS l) (rsecondS l) y = false := by
        intro h y hy
        rw [htk] at hy
        rcases List.mem_append.1 hy with hy | hy
        · exact hno y hy
        · simp at hy; rw [hy]; exact h
      have found : wants own (rfirstS l) (rsecondS l) x = true → electR l own = (rfirstS (told l i x), rsecondS (told l i x)) := by
        intro h
        have : l.findIdx? (wants own (rfirstS l) (rsecondS l)) = some i := by
          rw [List.findIdx?_eq_some_iff_getElem]
          refine ⟨hlt, by rw [hx]; exact h, fun j hj => ?_⟩
          have := hno l[j] (by rw [List.mem_take_iff_getElem]; exact ⟨j, by omega, rfl⟩)
          simp [this]
        simp only [electR, hm, if_true, this, hget]
      refine WK.skip (WK.seq (WK.blockK fun K1 hK1 => WK.seq (WK.reg mixed ?_)))
      repeat (first | refine GO.pure rfl rfl rfl rfl (by first | (simp only [Nat.reduceAdd, Nat.reduceMul, List.drop, List.take, List.length, splice, List.set, if_true, if_false, Bool.false_eq_true]; rfl) | rfl) ?_ | refine GO.skip rfl rfl ?_ | refine GO.step rfl rfl rfl rfl (by first | (simp only [Nat.reduceAdd, Nat.reduceMul, List.drop, List.take, List.length, splice, List.set, if_true, if_false, Bool.false_eq_true]; rfl) | rfl) (by simp only [happL, setH, delH, splice, List.set, List.take, List.drop, List.append_eq, List.cons_append, List.nil_append, List.append_nil, List.length, reduceIte, Nat.reduceAdd, Nat.reduceEqDiff]; rfl) (by simp only [Nat.reduceAdd, Nat.add_zero, List.length]; rfl) ?_ | refine GO.step0 rfl rfl rfl (by simp only [happL, setH, delH, splice, List.set, List.take, List.drop, List.append_eq, List.cons_append, List.nil_append, List.append_nil, List.length, reduceIte, Nat.reduceAdd, Nat.reduceEqDiff]; rfl) (by simp only [Nat.reduceAdd, Nat.add_zero, List.length]; rfl) ?_)
      refine GO.idxo rfl rfl rfl rfl (by simp) rfl hlt ?_
      refine GO.loaea (e := candC x) rfl rfl rfl rfl (by simp [hget]) rfl ?_
      simp only [candC]
      repeat (first | refine GO.pure rfl rfl rfl rfl (by first | (simp only [Nat.reduceAdd, Nat.reduceMul, List.drop, List.take, List.length, splice, List.set, if_true, if_false, Bool.false_eq_true]; rfl) | rfl) ?_ | refine GO.skip rfl rfl ?_ | refine GO.step rfl rfl rfl rfl (by first | (simp only [Nat.reduceAdd, Nat.reduceMul, List.drop, List.take, List.length, splice, List.set, if_true, if_false, Bool.false_eq_true]; rfl) | rfl) (by simp only [happL, setH, delH, splice, List.set, List.take, List.drop, List.append_eq, List.cons_append, List.nil_append, List.append_nil, List.length, reduceIte, Nat.reduceAdd, Nat.reduceEqDiff]; rfl) (by simp only [Nat.reduceAdd, Nat.add_zero, List.length]; rfl) ?_ | refine GO.step0 rfl rfl rfl (by simp only [happL, setH, delH, splice, List.set, List.take, List.drop, List.append_eq, List.cons_append, List.nil_append, List.append_nil, List.length, reduceIte, Nat.reduceAdd, Nat.reduceEqDiff]; rfl) (by simp only [Nat.reduceAdd, Nat.add_zero, List.length]; rfl) ?_)
      refine GO.done (WK.seq (WK.seq (WK.reg mixed ?_)))
      repeat (first | refine GO.pure rfl rfl rfl rfl (by first | (simp only [Nat.reduceAdd, Nat.reduceMul, List.drop, List.take, List.length, splice, List.set, if_true, if_false, Bool.false_eq_true]; rfl) | rfl) ?_ | refine GO.skip rfl rfl ?_ | refine GO.step rfl rfl rfl rfl (by first | (simp only [Nat.reduceAdd, Nat.reduceMul, List.drop, List.take, List.length, splice, List.set, if_true, if_false, Bool.false_eq_true]; rfl) | rfl) (by simp only [happL, setH, delH, splice, List.set, List.take, List.drop, List.append_eq, List.cons_append, List.nil_append, List.append_nil, List.length, reduceIte, Nat.reduceAdd, Nat.reduceEqDiff]; rfl) (by simp only [Nat.reduceAdd, Nat.add_zero, List.length]; rfl) ?_ | refine GO.step0 rfl rfl rfl (by simp only [happL, setH, delH, splice, List.set, List.take, List.drop, List.append_eq, List.cons_append, List.nil_append, List.append_nil, List.length, reduceIte, Nat.reduceAdd, Nat.reduceEqDiff]; rfl) (by simp only [Nat.reduceAdd, Nat.add_zero, List.length]; rfl) ?_)
      by_cases hown : x.i = own
      · have hod : decide (x.i = own) = true := by simp [hown]
        simp only [hod, Bool.not_true]
        refine GO.done (WK.condF rfl (WK.skip (WK.seq (WK.reg mixed ?_))))
        repeat (first | refine GO.pure rfl rfl rfl rfl (by first | (simp only [Nat.reduceAdd, Nat.reduceMul, List.drop, List.take, List.length, splice, List.set, if_true, if_false, Bool.false_eq_true]; rfl) | rfl) ?_ | refine GO.skip rfl rfl ?_ | refine GO.step rfl rfl rfl rfl (by first | (simp only [Nat.reduceAdd, Nat.reduceMul, List.drop, List.take, List.length, splice, List.set, if_true, if_false, Bool.false_eq_true]; rfl) | rfl) (by simp only [happL, setH, delH, splice, List.set, List.take, List.drop, List.append_eq, List.cons_append, List.nil_append, List.append_nil, List.length, reduceIte, Nat.reduceAdd, Nat.reduceEqDiff]; rfl) (by simp only [Nat.reduceAdd, Nat.add_zero, List.length]; rfl) ?_ | refine GO.step0 rfl rfl rfl (by simp only [happL, setH, delH, splice, List.set, List.take, List.drop, List.append_eq, List.cons_append, List.nil_append, List.append_nil, List.length, reduceIte, Nat.reduceAdd, Nat.reduceEqDiff]; rfl) (by simp only [Nat.reduceAdd, Nat.add_zero, List.length]; rfl) ?_)
        have yes : wants own (rfirstS l) (rsecondS l) x = true → ∀ (env : List (Nat × PVal)) (next : Nat) (heap : List (AId × AObj)), 1 ≤ next → heap.lookup 0 = some (.row 4 45 (l.map candC)) → env.lookup 8 = some (.own 0 4 0 l.length) → env.lookup 9 = some (.int .i64 i) → env.lookup 6 = some (.int .u32 (rfirstS l)) → env.lookup 7 = some (.int .u32 (rsecondS l)) →
            WK Try.prog 70 0 [AC.seq (.reg []
    [⟨some 54, none, .mov, [.t 8]⟩,
     ⟨some 55, none, .mov, [.t 9]⟩,
     ⟨some 56, none, .mov, [.t 6]⟩,
     ⟨some 57, none, .idxA 4, [.t 54, .t 55]⟩,
     ⟨some 58, none, .fldA 2, [.t 57]⟩,
     ⟨none, none, .store 1, [.t 58, .t 56]⟩])
  (.seq (.reg []
    [⟨some 59, none, .mov, [.t 8]⟩,
     ⟨some 60, none, .mov, [.t 9]⟩,
     ⟨some 61, none, .mov, [.t 7]⟩,
     ⟨some 62, none, .idxA 4, [.t 59, .t 60]⟩,
     ⟨some 63, none, .fldA 3, [.t 62]⟩,
     ⟨none, none, .store 1, [.t 63, .t 61]⟩])
  (.seq (.reg []
    [⟨some 64, none, .mov, [.t 8]⟩,
     ⟨some 65, none, .call 24, [.t 64]⟩,
     ⟨some 66, none, .ext 0, [.t 65]⟩,
     ⟨some 67, none, .ext 1, [.t 65]⟩,
     ⟨some 4, none, .mov, [.t 66]⟩,
     ⟨some 5, none, .mov, [.t 67]⟩])
  .ret))] (QF 1 K1 K1 (QF 0 again out Q')) ⟨env, heap, next⟩ := by
          intro hw env next heap hn hh h8 h9 h6 h7
          refine WK.conv (Conv.keep (env' := [(8, .own 0 4 0 l.length), (9, .int .i64 i), (6, .int .u32 (rfirstS l)), (7, .int .u32 (rsecondS l))]) (heap' := [(0, .row 4 45 (l.map candC))]) (next' := 1) [0] [] [8, 9, 6, 7] rfl (by simp [slOk]; omega) ?_ ?_ rfl) ?_ (by simp)
          · simp only [viewE, h6, h7, h8, h9]; rfl
          · simp only [subH, hh, viewO]
          refine WK.seq (WK.reg mixed ?_)
          repeat (first | refine GO.pure rfl rfl rfl rfl (by first | (simp only [Nat.reduceAdd, Nat.reduceMul, List.drop, List.take, List.length, splice, List.set, if_true, if_false, Bool.false_eq_true]; rfl) | rfl) ?_ | refine GO.skip rfl rfl ?_ | refine GO.step rfl rfl rfl rfl (by first | (simp only [Nat.reduceAdd, Nat.reduceMul, List.drop, List.take, List.length, splice, List.set, if_true, if_false, Bool.false_eq_true]; rfl) | rfl) (by simp only [happL, setH, delH, splice, List.set, List.take, List.drop, List.append_eq, List.cons_append, List.nil_append, List.append_nil, List.length, reduceIte, Nat.reduceAdd, Nat.reduceEqDiff]; rfl) (by simp only [Nat.reduceAdd, Nat.add_zero, List.length]; rfl) ?_ | refine GO.step0 rfl rfl rfl (by simp only [happL, setH, delH, splice, List.set, List.take, List.drop, List.append_eq, List.cons_append, List.nil_append, List.append_nil, List.length, reduceIte, Nat.reduceAdd, Nat.reduceEqDiff]; rfl) (by simp only [Nat.reduceAdd, Nat.add_zero, List.length]; rfl) ?_)
          refine GO.idxo rfl rfl rfl rfl (by simp) rfl hlt ?_
          refine GO.flde (o' := 2) rfl rfl rfl rfl (by simpa using hlt) rfl ?_
          refine GO.stoe (e := candC x) (heap' := [(0, .row 4 45 ((l.map candC).set i ((candC x).set 2 (.int .u32 (rfirstS l)))))]) rfl rfl rfl (by simp [hget]) rfl rfl (by decide) rfl ?_
          refine GO.done (WK.seq (WK.reg mixed ?_))
          repeat (first | refine GO.pure rfl rfl rfl rfl (by first | (simp only [Nat.reduceAdd, Nat.reduceMul, List.drop, List.take, List.length, splice, List.set, if_true, if_false, Bool.false_eq_true]; rfl) | rfl) ?_ | refine GO.skip rfl rfl ?_ | refine GO.step rfl rfl rfl rfl (by first | (simp only [Nat.reduceAdd, Nat.reduceMul, List.drop, List.take, List.length, splice, List.set, if_true, if_false, Bool.false_eq_true]; rfl) | rfl) (by simp only [happL, setH, delH, splice, List.set, List.take, List.drop, List.append_eq, List.cons_append, List.nil_append, List.append_nil, List.length, reduceIte, Nat.reduceAdd, Nat.reduceEqDiff]; rfl) (by simp only [Nat.reduceAdd, Nat.add_zero, List.length]; rfl) ?_ | refine GO.step0 rfl rfl rfl (by simp only [happL, setH, delH, splice, List.set, List.take, List.drop, List.append_eq, List.cons_append, List.nil_append, List.append_nil, List.length, reduceIte, Nat.reduceAdd, Nat.reduceEqDiff]; rfl) (by simp only [Nat.reduceAdd, Nat.add_zero, List.length]; rfl) ?_)
          refine GO.idxo rfl rfl rfl rfl (by simp) rfl hlt ?_
          refine GO.flde (o' := 3) rfl rfl rfl rfl (by simpa using hlt) rfl ?_
          refine GO.stoe (e := (candC x).set 2 (.int .u32 (rfirstS l))) (heap' := [(0, .row 4 45 ((told l i x).map candC))]) rfl rfl rfl (by simp [hlt]) rfl rfl (by decide) ?_ ?_
          · simp only [setH, if_true, List.set_set, told, List.map_set]
            rfl
          refine GO.done (WK.seq (WK.reg mixed ?_))
          repeat (first | refine GO.pure rfl rfl rfl rfl (by first | (simp only [Nat.reduceAdd, Nat.reduceMul, List.drop, List.take, List.length, splice, List.set, if_true, if_false, Bool.false_eq_true]; rfl) | rfl) ?_ | refine GO.skip rfl rfl ?_ | refine GO.step rfl rfl rfl rfl (by first | (simp only [Nat.reduceAdd, Nat.reduceMul, List.drop, List.take, List.length, splice, List.set, if_true, if_false, Bool.false_eq_true]; rfl) | rfl) (by simp only [happL, setH, delH, splice, List.set, List.take, List.drop, List.append_eq, List.cons_append, List.nil_append, List.append_nil, List.length, reduceIte, Nat.reduceAdd, Nat.reduceEqDiff]; rfl) (by simp only [Nat.reduceAdd, Nat.add_zero, List.length]; rfl) ?_ | refine GO.step0 rfl rfl rfl (by simp only [happL, setH, delH, splice, List.set, List.take, List.drop, List.append_eq, List.cons_append, List.nil_append, List.append_nil, List.length, reduceIte, Nat.reduceAdd, Nat.reduceEqDiff]; rfl) (by simp only [Nat.reduceAdd, Nat.add_zero, List.length]; rfl) ?_)
          have hl2 : (told l i x).length < 2 ^ 40 := by simpa [told] using hl
          refine GO.callbp (qs := [.ro 4 ((told l i x).map candC)]) [0] rfl rfl rfl ?_ (f24_ok _ hl2) rfl rfl ?_
          · simp only [viewP.go]
            rw [view_row rfl rfl (by simp [told])]
          repeat (first | refine GO.pure rfl rfl rfl rfl (by first | (simp only [Nat.reduceAdd, Nat.reduceMul, List.drop, List.take, List.length, splice, List.set, if_true, if_false, Bool.false_eq_true]; rfl) | rfl) ?_ | refine GO.skip rfl rfl ?_ | refine GO.step rfl rfl rfl rfl (by first | (simp only [Nat.reduceAdd, Nat.reduceMul, List.drop, List.take, List.length, splice, List.set, if_true, if_false, Bool.false_eq_true]; rfl) | rfl) (by simp only [happL, setH, delH, splice, List.set, List.take, List.drop, List.append_eq, List.cons_append, List.nil_append, List.append_nil, List.length, reduceIte, Nat.reduceAdd, Nat.reduceEqDiff]; rfl) (by simp only [Nat.reduceAdd, Nat.add_zero, List.length]; rfl) ?_ | refine GO.step0 rfl rfl rfl (by simp only [happL, setH, delH, splice, List.set, List.take, List.drop, List.append_eq, List.cons_append, List.nil_append, List.append_nil, List.length, reduceIte, Nat.reduceAdd, Nat.reduceEqDiff]; rfl) (by simp only [Nat.reduceAdd, Nat.add_zero, List.length]; rfl) ?_)
          refine GO.done (WK.ret (QF.ret (QF.ret (hQ' _ _ (RetQ.pure (.inr rfl) rfl rfl ?_ rfl)))))
          rw [found hw]
          rfl
        cases h1 : (decide (x.d = own) == decide (rfirstS l = own))
        · repeat (first | refine GO.pure rfl rfl rfl rfl (by first | (simp only [Nat.reduceAdd, Nat.reduceMul, List.drop, List.take, List.length, splice, List.set, if_true, if_false, Bool.false_eq_true]; rfl) | rfl) ?_ | refine GO.skip rfl rfl ?_ | refine GO.step rfl rfl rfl rfl (by first | (simp only [Nat.reduceAdd, Nat.reduceMul, List.drop, List.take, List.length, splice, List.set, if_true, if_false, Bool.false_eq_true]; rfl) | rfl) (by simp only [happL, setH, delH, splice, List.set, List.take, List.drop, List.append_eq, List.cons_append, List.nil_append, List.append_nil, List.length, reduceIte, Nat.reduceAdd, Nat.reduceEqDiff]; rfl) (by simp only [Nat.reduceAdd, Nat.add_zero, List.length]; rfl) ?_ | refine GO.step0 rfl rfl rfl (by simp only [happL, setH, delH, splice, List.set, List.take, List.drop, List.append_eq, List.cons_append, List.nil_append, List.append_nil, List.length, reduceIte, Nat.reduceAdd, Nat.reduceEqDiff]; rfl) (by simp only [Nat.reduceAdd, Nat.add_zero, List.length]; rfl) ?_)
          refine GO.done (WK.condT rfl (yes ?_ _ _ _ (by decide) rfl rfl rfl rfl rfl))
          simp [wants, agree, hown, h1]
        · repeat (first | refine GO.pure rfl rfl rfl rfl (by first | (simp only [Nat.reduceAdd, Nat.reduceMul, List.drop, List.take, List.length, splice, List.set, if_true, if_false, Bool.false_eq_true]; rfl) | rfl) ?_ | refine GO.skip rfl rfl ?_ | refine GO.step rfl rfl rfl rfl (by first | (simp only [Nat.reduceAdd, Nat.reduceMul, List.drop, List.take, List.length, splice, List.set, if_true, if_false, Bool.false_eq_true]; rfl) | rfl) (by simp only [happL, setH, delH, splice, List.set, List.take, List.drop, List.append_eq, List.cons_append, List.nil_append, List.append_nil, List.length, reduceIte, Nat.reduceAdd, Nat.reduceEqDiff]; rfl) (by simp only [Nat.reduceAdd, Nat.add_zero, List.length]; rfl) ?_ | refine GO.step0 rfl rfl rfl (by simp only [happL, setH, delH, splice, List.set, List.take, List.drop, List.append_eq, List.cons_append, List.nil_append, List.append_nil, List.length, reduceIte, Nat.reduceAdd, Nat.reduceEqDiff]; rfl) (by simp only [Nat.reduceAdd, Nat.add_zero, List.length]; rfl) ?_)
          cases h2 : (decide (x.b = own) == decide (rsecondS l = own))
          · refine GO.done (WK.condT rfl (yes ?_ _ _ _ (by decide) rfl rfl rfl rfl rfl))
            simp [wants, agree, hown, h1, h2]
          · refine GO.done (WK.condF rfl (WK.skip (WK.nil (QF.normal (hK1 _ ?_)))))
            refine WK.reg mixed ?_
            repeat (first | refine GO.pure rfl rfl rfl rfl (by first | (simp only [Nat.reduceAdd, Nat.reduceMul, List.drop, List.take, List.length, splice, List.set, if_true, if_false, Bool.false_eq_true]; rfl) | rfl) ?_ | refine GO.skip rfl rfl ?_ | refine GO.step rfl rfl rfl rfl (by first | (simp only [Nat.reduceAdd, Nat.reduceMul, List.drop, List.take, List.length, splice, List.set, if_true, if_false, Bool.false_eq_true]; rfl) | rfl) (by simp only [happL, setH, delH, splice, List.set, List.take, List.drop, List.append_eq, List.cons_append, List.nil_append, List.append_nil, List.length, reduceIte, Nat.reduceAdd, Nat.reduceEqDiff]; rfl) (by simp only [Nat.reduceAdd, Nat.add_zero, List.length]; rfl) ?_ | refine GO.step0 rfl rfl rfl (by simp only [happL, setH, delH, splice, List.set, List.take, List.drop, List.append_eq, List.cons_append, List.nil_append, List.append_nil, List.length, reduceIte, Nat.reduceAdd, Nat.reduceEqDiff]; rfl) (by simp only [Nat.reduceAdd, Nat.add_zero, List.length]; rfl) ?_)
            refine GO.done (WK.nil (QF.normal (hagain _ (l.length - (i + 1)) (st12 l own (i + 1)) (by omega) ?_ ⟨i + 1, by omega, rfl, nxt ?_, rfl⟩)))
            · simp only [wrap_succ (Nat.lt_trans hlt hl62)]
              refine Conv.keep [0] [] [1, 6, 7, 8, 9] rfl rfl ?_ rfl rfl
              (repeat (first | refine viewE_cons rfl rfl ?_ | refine viewE_cons rfl (viewP_closed _ _ (by simp [PVal.closed, PVal.closed.go, *])) ?_)); exact viewE_nil
            · have hag : agree x own (rfirstS l) (rsecondS l) = true := by simp only [agree, h1, h2, Bool.and_self]
              simp [wants, hag]
      · have hod : decide (x.i = own) = false := by simp [hown]
        simp only [hod, Bool.not_false]
        refine GO.done (WK.condT rfl (WK.exit (QF.exit (hK1 _ ?_))))
        refine WK.reg mixed ?_
        repeat (first | refine GO.pure rfl rfl rfl rfl (by first | (simp only [Nat.reduceAdd, Nat.reduceMul, List.drop, List.take, List.length, splice, List.set, if_true, if_false, Bool.false_eq_true]; rfl) | rfl) ?_ | refine GO.skip rfl rfl ?_ | refine GO.step rfl rfl rfl rfl (by first | (simp only [Nat.reduceAdd, Nat.reduceMul, List.drop, List.take, List.length, splice, List.set, if_true, if_false, Bool.false_eq_true]; rfl) | rfl) (by simp only [happL, setH, delH, splice, List.set, List.take, List.drop, List.append_eq, List.cons_append, List.nil_append, List.append_nil, List.length, reduceIte, Nat.reduceAdd, Nat.reduceEqDiff]; rfl) (by simp only [Nat.reduceAdd, Nat.add_zero, List.length]; rfl) ?_ | refine GO.step0 rfl rfl rfl (by simp only [happL, setH, delH, splice, List.set, List.take, List.drop, List.append_eq, List.cons_append, List.nil_append, List.append_nil, List.length, reduceIte, Nat.reduceAdd, Nat.reduceEqDiff]; rfl) (by simp only [Nat.reduceAdd, Nat.add_zero, List.length]; rfl) ?_)
        refine GO.done (WK.nil (QF.normal (hagain _ (l.length - (i + 1)) (st12 l own (i + 1)) (by omega) ?_ ⟨i + 1, by omega, rfl, nxt ?_, rfl⟩)))
        · simp only [wrap_succ (Nat.lt_trans hlt hl62)]
          refine Conv.keep [0] [] [1, 6, 7, 8, 9] rfl rfl ?_ rfl rfl
          (repeat (first | refine viewE_cons rfl rfl ?_ | refine viewE_cons rfl (viewP_closed _ _ (by simp [PVal.closed, PVal.closed.go, *])) ?_)); exact viewE_nil
        · simp [wants, hown]
    · refine WK.exit (QF.exit (hout _ ?_))
      have hi' : i = l.length := by
        have : ¬ (i < l.length) := by simpa using hb
        omega
      subst hi'
      rw [List.take_length] at hno
      refine WK.seq (WK.reg mixed ?_)
      repeat (first | refine GO.pure rfl rfl rfl rfl (by first | (simp only [Nat.reduceAdd, Nat.reduceMul, List.drop, List.take, List.length, splice, List.set, if_true, if_false, Bool.false_eq_true]; rfl) | rfl) ?_ | refine GO.skip rfl rfl ?_ | refine GO.step rfl rfl rfl rfl (by first | (simp only [Nat.reduceAdd, Nat.reduceMul, List.drop, List.take, List.length, splice, List.set, if_true, if_false, Bool.false_eq_true]; rfl) | rfl) (by simp only [happL, setH, delH, splice, List.set, List.take, List.drop, List.append_eq, List.cons_append, List.nil_append, List.append_nil, List.length, reduceIte, Nat.reduceAdd, Nat.reduceEqDiff]; rfl) (by simp only [Nat.reduceAdd, Nat.add_zero, List.length]; rfl) ?_ | refine GO.step0 rfl rfl rfl (by simp only [happL, setH, delH, splice, List.set, List.take, List.drop, List.append_eq, List.cons_append, List.nil_append, List.append_nil, List.length, reduceIte, Nat.reduceAdd, Nat.reduceEqDiff]; rfl) (by simp only [Nat.reduceAdd, Nat.add_zero, List.length]; rfl) ?_)
      refine GO.done (WK.ret (RetQ.pure (.inr rfl) rfl rfl ?_ rfl))
      have : l.findIdx? (wants own (rfirstS l) (rsecondS l)) = none := by rw [List.findIdx?_eq_none_iff]; exact hno
      simp only [electR, hm, if_true, this]
      rfl
end Go.Proofs.Ytbgnflbbebnagaa.Abs
