/- Where the first element is of which something holds. -/
import Derived.Test.YtagiapphmkdnmaaEn
set_option linter.unusedVariables false
namespace Go.Proofs.Ytagiapphmkdnmaa.Abs
open Go

theorem F28_slices_IndexFunc_lt1 {h : TClause → Bool} : ∀ (l : List TClause) (i : Nat) (r : Int), F28_slices_IndexFunc_l1 h i l = .error r → ∃ j : Nat, r = (j : Int) ∧ i ≤ j ∧ j < i + l.length
  | [], i, r, e => by simp [F28_slices_IndexFunc_l1] at e
  | x :: l, i, r, e => by
    unfold F28_slices_IndexFunc_l1 at e
    try dsimp only at e
    cases hb : (h x) with
    | true =>
      rw [hb, cond_true] at e
      injection e with e
      exact ⟨i, e.symm, Nat.le_refl _, by simp⟩
    | false =>
      rw [hb, cond_false] at e
      obtain ⟨j, h1, h2, h3⟩ := F28_slices_IndexFunc_lt1 l (i + 1) r e
      exact ⟨j, h1, by omega, by simp; omega⟩
theorem F28_slices_IndexFunc_lt {l : List TClause} {h : TClause → Bool} {c : Int} (e : F28_slices_IndexFunc l h = c) (hc : decide (c < 0) = false) : c.toNat < l.length := by
  unfold F28_slices_IndexFunc at e
  rw [decide_eq_false_iff_not] at hc
  split at e
  · rename_i r hr
    obtain ⟨j, h1, h2, h3⟩ := F28_slices_IndexFunc_lt1 l 0 r hr
    omega
  · omega

theorem F47_slices_IndexFunc_lt1 {h : TRule → Bool} : ∀ (l : List TRule) (i : Nat) (r : Int), F47_slices_IndexFunc_l1 h i l = .error r → ∃ j : Nat, r = (j : Int) ∧ i ≤ j ∧ j < i + l.length
  | [], i, r, e => by simp [F47_slices_IndexFunc_l1] at e
  | x :: l, i, r, e => by
    unfold F47_slices_IndexFunc_l1 at e
    try dsimp only at e
    cases hb : (h x) with
    | true =>
      rw [hb, cond_true] at e
      injection e with e
      exact ⟨i, e.symm, Nat.le_refl _, by simp⟩
    | false =>
      rw [hb, cond_false] at e
      obtain ⟨j, h1, h2, h3⟩ := F47_slices_IndexFunc_lt1 l (i + 1) r e
      exact ⟨j, h1, by omega, by simp; omega⟩
theorem F47_slices_IndexFunc_lt {l : List TRule} {h : TRule → Bool} {c : Int} (e : F47_slices_IndexFunc l h = c) (hc : decide (c < 0) = false) : c.toNat < l.length := by
  unfold F47_slices_IndexFunc at e
  rw [decide_eq_false_iff_not] at hc
  split at e
  · rename_i r hr
    obtain ⟨j, h1, h2, h3⟩ := F47_slices_IndexFunc_lt1 l 0 r hr
    omega
  · omega

theorem F50_slices_Index_lt1 {h : Int} : ∀ (l : List Int) (i : Nat) (r : Int), F50_slices_Index_l1 h i l = .error r → ∃ j : Nat, r = (j : Int) ∧ i ≤ j ∧ j < i + l.length
  | [], i, r, e => by simp [F50_slices_Index_l1] at e
  | x :: l, i, r, e => by
    unfold F50_slices_Index_l1 at e
    try dsimp only at e
    cases hb : (decide (h = x)) with
    | true =>
      rw [hb, cond_true] at e
      injection e with e
      exact ⟨i, e.symm, Nat.le_refl _, by simp⟩
    | false =>
      rw [hb, cond_false] at e
      obtain ⟨j, h1, h2, h3⟩ := F50_slices_Index_lt1 l (i + 1) r e
      exact ⟨j, h1, by omega, by simp; omega⟩
theorem F50_slices_Index_lt {l : List Int} {h : Int} {c : Int} (e : F50_slices_Index l h = c) (hc : decide (c < 0) = false) : c.toNat < l.length := by
  unfold F50_slices_Index at e
  rw [decide_eq_false_iff_not] at hc
  split at e
  · rename_i r hr
    obtain ⟨j, h1, h2, h3⟩ := F50_slices_Index_lt1 l 0 r hr
    omega
  · omega

theorem F28_slices_IndexFunc_find1 {h : TClause → Bool} : ∀ (l : List TClause) (i : Nat), (F28_slices_IndexFunc_l1 h i l = .ok () ∧ l.find? h = none) ∨ ∃ (j : Nat) (x : TClause), F28_slices_IndexFunc_l1 h i l = .error ((i + j : Nat) : Int) ∧ l[j]? = some x ∧ l.find? h = some x
  | [], i => .inl ⟨rfl, rfl⟩
  | x :: l, i => by
    unfold F28_slices_IndexFunc_l1
    try dsimp only
    cases hb : (h x) with
    | true => exact .inr ⟨0, x, by simp, rfl, by simp [List.find?, hb]⟩
    | false =>
      simp only [cond_false]
      rcases F28_slices_IndexFunc_find1 l (i + 1) with ⟨h1, h2⟩ | ⟨j, y, h1, h2, h3⟩
      · exact .inl ⟨h1, by simp only [List.find?, hb]; exact h2⟩
      · exact .inr ⟨j + 1, y, by rw [h1]; congr 2; omega, by simpa using h2, by simp only [List.find?, hb]; exact h3⟩
theorem F28_slices_IndexFunc_find {h : TClause → Bool} (l : List TClause) : (F28_slices_IndexFunc l h = -1 ∧ l.find? h = none) ∨ ∃ (j : Nat) (x : TClause), F28_slices_IndexFunc l h = (j : Int) ∧ l[j]? = some x ∧ l.find? h = some x := by
  unfold F28_slices_IndexFunc
  rcases F28_slices_IndexFunc_find1 (h := h) l 0 with ⟨h1, h2⟩ | ⟨j, y, h1, h2, h3⟩
  · rw [h1]; exact .inl ⟨rfl, h2⟩
  · rw [h1]; exact .inr ⟨j, y, by simp, h2, h3⟩

theorem F47_slices_IndexFunc_find1 {h : TRule → Bool} : ∀ (l : List TRule) (i : Nat), (F47_slices_IndexFunc_l1 h i l = .ok () ∧ l.find? h = none) ∨ ∃ (j : Nat) (x : TRule), F47_slices_IndexFunc_l1 h i l = .error ((i + j : Nat) : Int) ∧ l[j]? = some x ∧ l.find? h = some x
  | [], i => .inl ⟨rfl, rfl⟩
  | x :: l, i => by
    unfold F47_slices_IndexFunc_l1
    try dsimp only
    cases hb : (h x) with
    | true => exact .inr ⟨0, x, by simp, rfl, by simp [List.find?, hb]⟩
    | false =>
      simp only [cond_false]
      rcases F47_slices_IndexFunc_find1 l (i + 1) with ⟨h1, h2⟩ | ⟨j, y, h1, h2, h3⟩
      · exact .inl ⟨h1, by simp only [List.find?, hb]; exact h2⟩
      · exact .inr ⟨j + 1, y, by rw [h1]; congr 2; omega, by simpa using h2, by simp only [List.find?, hb]; exact h3⟩
theorem F47_slices_IndexFunc_find {h : TRule → Bool} (l : List TRule) : (F47_slices_IndexFunc l h = -1 ∧ l.find? h = none) ∨ ∃ (j : Nat) (x : TRule), F47_slices_IndexFunc l h = (j : Int) ∧ l[j]? = some x ∧ l.find? h = some x := by
  unfold F47_slices_IndexFunc
  rcases F47_slices_IndexFunc_find1 (h := h) l 0 with ⟨h1, h2⟩ | ⟨j, y, h1, h2, h3⟩
  · rw [h1]; exact .inl ⟨rfl, h2⟩
  · rw [h1]; exact .inr ⟨j, y, by simp, h2, h3⟩

theorem F50_slices_Index_find1 {h : Int} : ∀ (l : List Int) (i : Nat), (F50_slices_Index_l1 h i l = .ok () ∧ l.find? (fun y => decide (h = y)) = none) ∨ ∃ (j : Nat) (x : Int), F50_slices_Index_l1 h i l = .error ((i + j : Nat) : Int) ∧ l[j]? = some x ∧ l.find? (fun y => decide (h = y)) = some x
  | [], i => .inl ⟨rfl, rfl⟩
  | x :: l, i => by
    unfold F50_slices_Index_l1
    try dsimp only
    cases hb : (decide (h = x)) with
    | true => exact .inr ⟨0, x, by simp, rfl, by simp [List.find?, hb]⟩
    | false =>
      simp only [cond_false]
      rcases F50_slices_Index_find1 l (i + 1) with ⟨h1, h2⟩ | ⟨j, y, h1, h2, h3⟩
      · exact .inl ⟨h1, by simp only [List.find?, hb]; exact h2⟩
      · exact .inr ⟨j + 1, y, by rw [h1]; congr 2; omega, by simpa using h2, by simp only [List.find?, hb]; exact h3⟩
theorem F50_slices_Index_find {h : Int} (l : List Int) : (F50_slices_Index l h = -1 ∧ l.find? (fun y => decide (h = y)) = none) ∨ ∃ (j : Nat) (x : Int), F50_slices_Index l h = (j : Int) ∧ l[j]? = some x ∧ l.find? (fun y => decide (h = y)) = some x := by
  unfold F50_slices_Index
  rcases F50_slices_Index_find1 (h := h) l 0 with ⟨h1, h2⟩ | ⟨j, y, h1, h2, h3⟩
  · rw [h1]; exact .inl ⟨rfl, h2⟩
  · rw [h1]; exact .inr ⟨j, y, by simp, h2, h3⟩

end Go.Proofs.Ytagiapphmkdnmaa.Abs
