/- Rows in the order of an integer key: where a key stands. Plain law, generic. -/
import Derived.Test.YtbmdpedhobkeeaaB2
set_option linter.unusedVariables false
set_option linter.unusedSimpArgs false
namespace Go.Proofs.Ytbmdpedhobkeeaa.Abs
open Go

def sgnI (x y : Int) : Int := if x < y then -1 else if y < x then 1 else 0
theorem sgnI_neg (a b : Int) : sgnI a b < 0 ↔ a < b := by
  unfold sgnI
  (repeat' split) <;> constructor <;> intro h <;> omega
theorem sgnI_zero (a b : Int) : sgnI a b = 0 ↔ a = b := by
  unfold sgnI
  (repeat' split) <;> constructor <;> intro h <;> omega

/-! ### Rows in order -/
section
variable {α : Type} {f : α → Int} {L : List α} {p : Int} {k : Nat}

def SrtI (f : α → Int) (L : List α) : Prop := L.Pairwise fun x y => ((f x) < (f y))

/-- p stands, or would, at k. -/
structure AtI (f : α → Int) (L : List α) (p : Int) (k : Nat) : Prop where
  le : k ≤ L.length
  lo : ∀ x ∈ L.take k, ((f x) < p)
  hi : ∀ x ∈ L.drop k, ¬ ((f x) < p)

theorem srtI_get [Inhabited α] (h : SrtI f L) {a b : Nat} (hab : a < b) (hb : b < L.length) : ((f (L.getD a default)) < (f (L.getD b default))) := by
  have := List.pairwise_iff_getElem.1 h a b (by omega) hb hab
  simpa [List.getD_eq_getElem?_getD, List.getElem?_eq_getElem (show a < L.length by omega), List.getElem?_eq_getElem hb] using this

theorem bsI_at [Inhabited α] (h : SrtI f L) (hn : L.length ≤ 9223372036854775807) : ∃ k : Nat, bsF L p (fun x q => sgnI (f x) q) = ((k : Int), decide (k < L.length ∧ f (L.getD k default) = p)) ∧ AtI f L p k := by
  obtain ⟨k, k1, k2, k3⟩ := bsF_spec (t := p) (cmp := fun x q => sgnI (f x) q) hn
  have hm := k3 (fun a b hab hb hlt => by
    rw [sgnI_neg] at hlt ⊢
    rcases Nat.lt_or_eq_of_le hab with h1 | rfl
    · exact Int.lt_trans (srtI_get h h1 hb) hlt
    · exact hlt)
  simp only [sgnI_neg, sgnI_zero] at k1 hm
  refine ⟨k, k1, k2, fun x hx => ?_, fun x hx => ?_⟩
  · obtain ⟨i, hi, rfl⟩ := List.getElem_of_mem hx
    have hi' : i < k ∧ i < L.length := by simp at hi; omega
    have := hm.1 i hi'.1
    rw [List.getElem_take]
    simpa [List.getD_eq_getElem?_getD, List.getElem?_eq_getElem hi'.2] using this
  · obtain ⟨i, hi, rfl⟩ := List.getElem_of_mem hx
    have hi' : k + i < L.length := by simp at hi; omega
    have := hm.2 (k + i) (by omega) hi'
    rw [List.getElem_drop]
    simpa [List.getD_eq_getElem?_getD, List.getElem?_eq_getElem hi'] using this

theorem dropI [Inhabited α] {k : Nat} (h : k < L.length) : L.drop k = L.getD k default :: L.drop (k + 1) := by
  rw [List.drop_eq_getElem_cons h, List.getD_eq_getElem?_getD, List.getElem?_eq_getElem h]
  rfl

theorem AtI.rest [Inhabited α] (h : AtI f L p k) (hs : SrtI f L) (hk : k < L.length) (he : f (L.getD k default) = p) : ∀ x ∈ L.drop (k + 1), (p < (f x)) := by
  intro x hx
  have hp : (L.drop k).Pairwise fun x y => ((f x) < (f y)) := hs.sublist (List.drop_sublist k L)
  rw [dropI hk] at hp
  have := (List.pairwise_cons.1 hp).1 x hx
  rwa [he] at this

theorem AtI.found [Inhabited α] (h : AtI f L p k) (hs : SrtI f L) : (k < L.length ∧ f (L.getD k default) = p) ↔ ∃ x ∈ L, f x = p := by
  constructor
  · rintro ⟨h1, h2⟩
    refine ⟨L.getD k default, ?_, h2⟩
    rw [List.getD_eq_getElem?_getD, List.getElem?_eq_getElem h1]
    exact List.getElem_mem h1
  · rintro ⟨x, hx, he⟩
    rw [← List.take_append_drop k L, List.mem_append] at hx
    rcases hx with hx | hx
    · have := h.lo x hx
      rw [he] at this
      exact absurd this (Int.lt_irrefl p)
    · have hk : k < L.length := by
        have : (L.drop k).length ≠ 0 := by
          intro h0
          rw [List.length_eq_zero_iff.1 h0] at hx
          cases hx
        simp at this
        omega
      refine ⟨hk, ?_⟩
      have hp : (L.drop k).Pairwise fun x y => ((f x) < (f y)) := hs.sublist (List.drop_sublist k L)
      rw [dropI hk] at hp hx
      rcases List.mem_cons.1 hx with rfl | hx
      · exact he
      · have h1 := (List.pairwise_cons.1 hp).1 x hx
        rw [he] at h1
        exact absurd h1 (h.hi _ (by rw [dropI hk]; exact List.mem_cons_self))

theorem AtI.gt (h : AtI f L p k) (hs : SrtI f L) (hn : ¬ ∃ x ∈ L, f x = p) : ∀ x ∈ L.drop k, (p < (f x)) := by
  intro x hx
  rcases Int.lt_trichotomy (f x) p with h1 | h1 | h1
  · exact absurd h1 (h.hi x hx)
  · exact absurd ⟨x, List.mem_of_mem_drop hx, h1⟩ hn
  · exact h1

/-- The one that is there. -/
theorem AtI.only [Inhabited α] (h : AtI f L p k) (hs : SrtI f L) {x : α} (hx : x ∈ L) (he : f x = p) : k < L.length ∧ L.getD k default = x := by
  obtain ⟨hk, hp⟩ := (h.found hs).2 ⟨x, hx, he⟩
  refine ⟨hk, ?_⟩
  rw [← List.take_append_drop k L, List.mem_append] at hx
  rcases hx with hx | hx
  · have := h.lo x hx
    rw [he] at this
    exact absurd this (Int.lt_irrefl p)
  · have hr := h.rest hs hk hp
    rw [dropI hk] at hx
    rcases List.mem_cons.1 hx with rfl | hx
    · rfl
    · have := hr x hx
      rw [he] at this
      exact absurd this (Int.lt_irrefl p)

/-- Taken out. -/
theorem AtI.del [Inhabited α] (h : AtI f L p k) (hs : SrtI f L) (hk : k < L.length) (hp : f (L.getD k default) = p) : L.take k ++ L.drop (k + 1) = L.filter fun x => !decide (f x = p) := by
  conv => rhs; rw [← List.take_append_drop k L, dropI hk]
  rw [List.filter_append, List.filter_cons]
  simp only [hp, decide_true, Bool.not_true, Bool.false_eq_true, if_false]
  rw [List.filter_eq_self.2, List.filter_eq_self.2]
  · intro x hx
    have := h.rest hs hk hp x hx
    simp only [Bool.not_eq_true', decide_eq_false_iff_not]
    intro e
    rw [e] at this
    exact Int.lt_irrefl p this
  · intro x hx
    have := h.lo x hx
    simp only [Bool.not_eq_true', decide_eq_false_iff_not]
    intro e
    rw [e] at this
    exact Int.lt_irrefl p this

theorem filterI_none (hn : ¬ ∃ x ∈ L, f x = p) : (L.filter fun x => !decide (f x = p)) = L := by
  rw [List.filter_eq_self]
  intro x hx
  simp only [Bool.not_eq_true', decide_eq_false_iff_not]
  exact fun e => hn ⟨x, hx, e⟩

theorem srtI_mid {A B : List α} {y : α} (hA : SrtI f A) (hB : SrtI f B) (h1 : ∀ x ∈ A, ((f x) < (f y))) (h2 : ∀ x ∈ B, ((f y) < (f x))) : SrtI f (A ++ [y] ++ B) := by
  unfold SrtI
  rw [List.append_assoc, List.pairwise_append]
  refine ⟨hA, ?_, ?_⟩
  · rw [List.singleton_append, List.pairwise_cons]
    exact ⟨h2, hB⟩
  · intro a ha b hb
    rcases List.mem_append.1 hb with hb | hb
    · rw [List.mem_singleton.1 hb]; exact h1 a ha
    · exact Int.lt_trans (h1 a ha) (h2 b hb)

theorem srtI_take (h : SrtI f L) (k : Nat) : SrtI f (L.take k) := h.sublist (List.take_sublist k L)
theorem srtI_drop (h : SrtI f L) (k : Nat) : SrtI f (L.drop k) := h.sublist (List.drop_sublist k L)

theorem AtI.ins (h : AtI f L p k) (hs : SrtI f L) (hn : ¬ ∃ x ∈ L, f x = p) {y : α} (hy : f y = p) : SrtI f (L.take k ++ [y] ++ L.drop k) :=
  srtI_mid (srtI_take hs k) (srtI_drop hs k) (fun x hx => hy ▸ h.lo x hx) (fun x hx => hy ▸ h.gt hs hn x hx)

theorem setI_eq {k : Nat} (hk : k < L.length) (y : α) : L.set k y = L.take k ++ [y] ++ L.drop (k + 1) := by
  rw [List.set_eq_take_append_cons_drop, if_pos hk]
  simp

theorem AtI.set [Inhabited α] (h : AtI f L p k) (hs : SrtI f L) (hk : k < L.length) (hp : f (L.getD k default) = p) {y : α} (hy : f y = p) : SrtI f (L.set k y) := by
  rw [setI_eq hk]
  exact srtI_mid (srtI_take hs k) (srtI_drop hs _) (fun x hx => hy ▸ h.lo x hx) (fun x hx => hy ▸ h.rest hs hk hp x hx)
end

end Go.Proofs.Ytbmdpedhobkeeaa.Abs
