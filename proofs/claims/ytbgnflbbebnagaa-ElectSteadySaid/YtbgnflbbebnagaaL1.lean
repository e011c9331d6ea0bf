/- The plain law of the election: what the program elects is what the document says. -/
import Derived.Test.YtbgnflbbebnagaaE6
set_option linter.unusedVariables false
set_option linter.unusedSimpArgs false
namespace Go.Proofs.Ytbgnflbbebnagaa.Abs
open Go

def Ok (c : Cand) : Prop := c.i ≠ 0 ∧ 0 ≤ c.p
def Good (b : Cand) : Prop := (b.i = 0 → b.p = 0) ∧ (b.i ≠ 0 → 0 < b.p)

theorem top_filter (h : Cand → Bool) : ∀ (l : List Cand) (b : Cand), (∀ x ∈ l, Ok x) → Good b → l.foldl (topStep h) b = (l.filter fun x => !decide (x.p = 0) && h x).foldl rtopStep b
  | [], b, _, _ => rfl
  | x :: r, b, hl, hb => by
    have hx := hl x List.mem_cons_self
    have hr : ∀ y ∈ r, Ok y := fun y hy => hl y (List.mem_cons_of_mem _ hy)
    by_cases hp : x.p = 0
    · have e1 : topStep h b x = b := by simp [topStep, hp]
      rw [List.filter_cons_of_neg (by simp [hp]), List.foldl_cons, e1]
      exact top_filter h r b hr hb
    · cases hh : h x
      · have e1 : topStep h b x = b := by simp [topStep, hh]
        rw [List.filter_cons_of_neg (by simp [hh]), List.foldl_cons, e1]
        exact top_filter h r b hr hb
      · have hpos : 0 < x.p := by have := hx.2; omega
        have e1 : topStep h b x = rtopStep b x := by
          unfold topStep rtopStep above
          by_cases hz : b.i = 0
          · have := hb.1 hz
            rw [if_pos ⟨hpos, hh, .inl hz⟩, if_pos (.inl (by omega))]
          · by_cases hpp : x.p = b.p
            · by_cases hi : b.i < x.i
              · rw [if_pos ⟨hpos, hh, .inr (by simp [hpp, hi])⟩, if_pos (.inr ⟨hpp, hpos, hi⟩)]
              · rw [if_neg (by simp [hpp, hi, hz]), if_neg (by simp [hpp, hi])]
            · by_cases hi : b.p < x.p
              · rw [if_pos ⟨hpos, hh, .inr (by simp [hpp, hi])⟩, if_pos (.inl hi)]
              · rw [if_neg (by simp [hpp, hi, hz]), if_neg (by simp [hpp, hi])]
        have hg : Good (rtopStep b x) := by
          unfold rtopStep
          split
          · exact ⟨fun e => absurd e hx.1, fun _ => hpos⟩
          · exact hb
        rw [List.filter_cons_of_pos (by simp [hp, hh]), List.foldl_cons, List.foldl_cons, e1]
        exact top_filter h r _ hr hg

theorem good0 : Good ⟨0, 0, 0, 0⟩ := ⟨fun _ => rfl, fun h => absurd rfl h⟩

theorem topS_eq (h : Cand → Bool) (l : List Cand) (hl : ∀ x ∈ l, Ok x) : topS h l = rtopS (l.filter fun x => !decide (x.p = 0) && h x) := top_filter h l _ hl good0

theorem rtop_all : ∀ (l : List Cand) (b : Cand), (∀ x ∈ l, Ok x) → 0 ≤ b.p → l.foldl rtopStep b = (l.filter fun x => !decide (x.p = 0) && true).foldl rtopStep b
  | [], b, _, _ => rfl
  | x :: r, b, hl, hb => by
    have hx := hl x List.mem_cons_self
    have hr : ∀ y ∈ r, Ok y := fun y hy => hl y (List.mem_cons_of_mem _ hy)
    by_cases hp : x.p = 0
    · have e1 : rtopStep b x = b := by unfold rtopStep; rw [if_neg (by omega)]
      rw [List.filter_cons_of_neg (by simp [hp]), List.foldl_cons, e1]
      exact rtop_all r b hr hb
    · rw [List.filter_cons_of_pos (by simp [hp]), List.foldl_cons, List.foldl_cons]
      refine rtop_all r _ hr ?_
      unfold rtopStep
      split
      · exact hx.2
      · exact hb

theorem rtop_nz : ∀ (l : List Cand) (b : Cand), (∀ x ∈ l, x.i ≠ 0 ∧ 0 < x.p) → Good b → (b.i ≠ 0 ∨ l ≠ []) → (l.foldl rtopStep b).i ≠ 0
  | [], b, _, _, h => by
    rcases h with h | h
    · exact h
    · exact absurd rfl h
  | x :: r, b, hl, hb, _ => by
    have hx := hl x List.mem_cons_self
    rw [List.foldl_cons]
    refine rtop_nz r _ (fun y hy => hl y (List.mem_cons_of_mem _ hy)) ?_ (.inl ?_)
    · unfold rtopStep
      split
      · exact ⟨fun e => absurd e hx.1, fun _ => hx.2⟩
      · exact hb
    · unfold rtopStep
      split
      · exact hx.1
      · rename_i hn
        intro hz
        have := hb.1 hz
        exact hn (.inl (by omega))

theorem top_zero (l : List Cand) (hl : ∀ x ∈ l, Ok x) (h : Cand → Bool) : (rtopS (l.filter fun x => !decide (x.p = 0) && h x)).i = 0 ↔ (l.filter fun x => !decide (x.p = 0) && h x).length = 0 := by
  constructor
  · intro hz
    cases hf : l.filter fun x => !decide (x.p = 0) && h x with
    | nil => rfl
    | cons y r =>
      exfalso
      refine rtop_nz (l.filter fun x => !decide (x.p = 0) && h x) _ (fun x hx => ?_) good0 (.inr (by rw [hf]; simp)) hz
      obtain ⟨h1, h2⟩ := List.mem_filter.1 hx
      have := hl x h1
      simp only [Bool.and_eq_true, Bool.not_eq_true', decide_eq_false_iff_not] at h2
      exact ⟨this.1, by have := this.2; omega⟩
  · intro hz
    rw [List.eq_nil_of_length_eq_zero hz]
    rfl

theorem turn_eq (l : List Cand) (hl : ∀ x ∈ l, Ok x) : firstS l = rfirstS l ∧ secondS l = rsecondS l := by
  have e33 : topS h33 l = rtopS (F24 l) := topS_eq h33 l hl
  have e32 : topS h32 l = rtopS (O24 l) := topS_eq h32 l hl
  have e31 : topS h31 l = rtopS (S24 l) := topS_eq h31 l hl
  have z33 : (rtopS (F24 l)).i = 0 ↔ (F24 l).length = 0 := top_zero l hl h33
  have z31 : (rtopS (S24 l)).i = 0 ↔ (S24 l).length = 0 := top_zero l hl h31
  have hs : secondS l = rsecondS l := by
    unfold secondS rsecondS
    rw [e31, e32]
    by_cases h : (S24 l).length = 0
    · rw [if_pos (z31.2 h), if_pos h]
    · rw [if_neg (fun e => h (z31.1 e)), if_neg h]
  refine ⟨?_, hs⟩
  unfold firstS rfirstS
  rw [e33, hs]
  by_cases h : (F24 l).length = 0
  · rw [if_pos (z33.2 h), if_pos h]
  · rw [if_neg (fun e => h (z33.1 e)), if_neg h]

theorem may_ok {l : List Cand} (h : mayS l = true) : ∀ x ∈ l, Ok x := by
  intro x hx
  simp only [mayS, Bool.and_eq_true] at h
  have := List.all_eq_true.1 h.1 x hx
  simp only [valid, Bool.not_eq_true', Bool.or_eq_false_iff, decide_eq_false_iff_not] at this
  exact ⟨this.1, by omega⟩

theorem may_nodup {l : List Cand} (h : mayS l = true) : (l.map (·.i)).Nodup := by
  simp only [mayS, Bool.and_eq_true] at h
  exact of_decide_eq_true h.2.2

theorem speak_eq (l : List Cand) : speakS l = if mayS l then (rtopS l).i else 0 := by
  unfold speakS
  cases hm : mayS l
  · rfl
  · have e1 := topS_eq (fun _ => true) l (may_ok hm)
    have e2 : rtopS l = rtopS (l.filter fun x => !decide (x.p = 0) && true) := rtop_all l _ (may_ok hm) (Int.le_refl _)
    rw [if_pos rfl, if_pos rfl, e1, e2]

theorem told_ok (l : List Cand) (hl : ∀ x ∈ l, Ok x) (i : Nat) (x : Cand) (hx : Ok x) : ∀ y ∈ told l i x, Ok y := by
  intro y hy
  rcases List.mem_or_eq_of_mem_set hy with h | rfl
  · exact hl y h
  · exact hx

theorem elect_eq (l : List Cand) (own : Int) : electP l own = electR l own := by
  unfold electP electR
  cases hm : mayS l
  · rfl
  simp only [if_true]
  have hok := may_ok hm
  have hnd := may_nodup hm
  obtain ⟨e1, e2⟩ := turn_eq l hok
  rw [e1, e2]
  cases hf : l.findIdx? (fun c => decide (c.i = own)) with
  | none =>
    have : l.findIdx? (wants own (rfirstS l) (rsecondS l)) = none := by
      rw [List.findIdx?_eq_none_iff] at hf ⊢
      intro x hx
      simp only [wants, hf x hx, Bool.false_and]
    rw [this]
  | some i =>
    obtain ⟨hlt, hi, hb⟩ := List.findIdx?_eq_some_iff_getElem.1 hf
    have hget : l[i]? = some l[i] := List.getElem?_eq_getElem hlt
    have huniq : ∀ j (hj : j < l.length), l[j].i = own → j = i := by
      intro j hj h
      refine (List.getElem?_inj (show j < (l.map (·.i)).length by simpa using hj) hnd).1 ?_
      rw [List.getElem?_map, List.getElem?_map, List.getElem?_eq_getElem hj, hget]
      simp only [Option.map_some, h, of_decide_eq_true hi]
    cases hag : agree l[i] own (rfirstS l) (rsecondS l)
    · have hw : l.findIdx? (wants own (rfirstS l) (rsecondS l)) = some i := by
        rw [List.findIdx?_eq_some_iff_getElem]
        refine ⟨hlt, by simp only [wants, hi, hag]; rfl, fun j hj => ?_⟩
        have := hb j hj
        simp only [wants]
        cases hd : decide (l[j].i = own)
        · simp
        · rw [hd] at this; exact absurd rfl this
      rw [hw]
      simp only [hget, hag, Bool.false_eq_true, if_false]
      obtain ⟨e3, e4⟩ := turn_eq _ (told_ok l hok i l[i] (hok _ (List.getElem_mem hlt)))
      simp only [told] at e3 e4 ⊢
      rw [e3, e4]
    · have hw : l.findIdx? (wants own (rfirstS l) (rsecondS l)) = none := by
        rw [List.findIdx?_eq_none_iff]
        intro x hx
        obtain ⟨j, hj, rfl⟩ := List.mem_iff_getElem.1 hx
        by_cases h : l[j].i = own
        · have := huniq j hj h
          subst this
          simp only [wants, hag, Bool.not_true, Bool.and_false]
        · simp only [wants, h, decide_false, Bool.false_and]
      rw [hw]
      simp only [hget, hag, if_true]
end Go.Proofs.Ytbgnflbbebnagaa.Abs
