/- Binary search: where it ends. Plain law, generic. -/
import Derived.Test.YtmfggjebbhdejaaB1
set_option linter.unusedVariables false
set_option linter.unusedSimpArgs false
namespace Go.Proofs.Ytmfggjebbhdejaa.Abs
open Go

/-- The middle of two places. -/
theorem mid_eq {i j : Int} (h0 : 0 ≤ i) (h1 : i ≤ j) (h2 : j ≤ 9223372036854775807) : IntKind.i64.wrap (Int.fdiv (IntKind.u64.wrap (IntKind.i64.wrap (i + j))) (2 ^ 1)) = (i + j) / 2 := by
  have e : IntKind.u64.wrap (IntKind.i64.wrap (i + j)) = i + j := by
    have h3 : (2 : Int) ^ IntKind.i64.bits = 18446744073709551616 := by decide
    have h4 : (2 : Int) ^ (IntKind.i64.bits - 1) = 9223372036854775808 := by decide
    have h5 : IntKind.i64.signed = true := rfl
    have h6 : (2 : Int) ^ IntKind.u64.bits = 18446744073709551616 := by decide
    have h7 : IntKind.u64.signed = false := rfl
    have hm : (i + j) % 18446744073709551616 = i + j := Int.emod_eq_of_lt (by omega) (by omega)
    simp only [IntKind.wrap, h3, h4, h5, h6, h7, hm, Bool.true_and, Bool.false_and, Bool.false_eq_true, if_false, decide_eq_true_eq, ge_iff_le]
    split
    · omega
    · omega
  rw [e, show ((2 : Int) ^ 1) = 2 by decide, Int.fdiv_eq_ediv_of_nonneg _ (by decide)]
  rw [wi64] <;> omega

def midOf (i j : Int) : Int := IntKind.i64.wrap (Int.fdiv (IntKind.u64.wrap (IntKind.i64.wrap (i + j))) (2 ^ 1))

def bsG {α β : Type} [Inhabited α] (L : List α) (t : β) (cmp : α → β → Int) : Nat → Int → Int → Int × Int
  | 0, i, j => (i, j)
  | f + 1, i, j => bif decide (i < j) then (let c := cmp (L.getD (midOf i j).toNat default) t
      bif decide (c < 0) then bsG L t cmp f (IntKind.i64.wrap (midOf i j + 1)) j else bsG L t cmp f i (midOf i j)) else (i, j)

def bsF {α β : Type} [Inhabited α] (L : List α) (t : β) (cmp : α → β → Int) : Int × Bool :=
  match bsG L t cmp (((L.length : Int) - 0).toNat + 1) 0 (L.length : Int) with
  | (i, j) => bif decide (i < (L.length : Int)) then (let c := cmp (L.getD i.toNat default) t
      (i, decide (c = 0))) else (i, false)

section
variable {α β : Type} [Inhabited α] {L : List α} {t : β} {cmp : α → β → Int}

/-- It ends between the two; where the test is first met and then not, it ends there. -/
theorem bsG_spec (hn : L.length ≤ 9223372036854775807) : ∀ (f : Nat) (i j : Nat), i ≤ j → j ≤ L.length → j - i < f →
    ∃ k : Nat, bsG L t cmp f (i : Int) (j : Int) = ((k : Int), (k : Int)) ∧ i ≤ k ∧ k ≤ j ∧
      ((∀ a b, a ≤ b → b < L.length → cmp (L.getD b default) t < 0 → cmp (L.getD a default) t < 0) → (∀ a, a < i → cmp (L.getD a default) t < 0) → (∀ a, j ≤ a → a < L.length → ¬ cmp (L.getD a default) t < 0) →
        (∀ a, a < k → cmp (L.getD a default) t < 0) ∧ (∀ a, k ≤ a → a < L.length → ¬ cmp (L.getD a default) t < 0))
  | 0, i, j, _, _, h => absurd h (Nat.not_lt_zero _)
  | f + 1, i, j, hij, hj, hf => by
    unfold bsG
    by_cases h : i < j
    · have h' : (i : Int) < (j : Int) := by omega
      have hm : midOf (i : Int) (j : Int) = (((i + j) / 2 : Nat) : Int) := by
        unfold midOf
        rw [mid_eq (by omega) (by omega) (by omega)]
        omega
      simp only [h', decide_true, cond_true, hm, Int.toNat_natCast]
      by_cases hc : cmp (L.getD ((i + j) / 2) default) t < 0
      · have hw : IntKind.i64.wrap ((((i + j) / 2 : Nat) : Int) + 1) = (((i + j) / 2 + 1 : Nat) : Int) := by rw [wi64 (by omega) (by omega)]; omega
        simp only [hc, decide_true, cond_true, hw]
        obtain ⟨k, k1, k2, k3, k4⟩ := bsG_spec hn f ((i + j) / 2 + 1) j (by omega) hj (by omega)
        refine ⟨k, k1, by omega, k3, fun hmono ha hb => k4 hmono (fun a h1 => ?_) hb⟩
        exact hmono a ((i + j) / 2) (by omega) (by omega) hc
      · simp only [hc, decide_false, cond_false]
        obtain ⟨k, k1, k2, k3, k4⟩ := bsG_spec hn f i ((i + j) / 2) (by omega) (by omega) (by omega)
        refine ⟨k, k1, k2, by omega, fun hmono ha hb => k4 hmono ha fun a h1 h2 h3 => ?_⟩
        exact hc (hmono _ a h1 h2 h3)
    · have h' : ¬ ((i : Int) < (j : Int)) := by omega
      have e : i = j := by omega
      subst e
      simp only [h', decide_false, cond_false]
      exact ⟨i, rfl, Nat.le_refl _, Nat.le_refl _, fun _ ha hb => ⟨ha, hb⟩⟩

theorem bsF_spec (hn : L.length ≤ 9223372036854775807) : ∃ k : Nat, bsF L t cmp = ((k : Int), decide (k < L.length ∧ cmp (L.getD k default) t = 0)) ∧ k ≤ L.length ∧
    ((∀ a b, a ≤ b → b < L.length → cmp (L.getD b default) t < 0 → cmp (L.getD a default) t < 0) → (∀ a, a < k → cmp (L.getD a default) t < 0) ∧ (∀ a, k ≤ a → a < L.length → ¬ cmp (L.getD a default) t < 0)) := by
  obtain ⟨k, k1, k2, k3, k4⟩ := bsG_spec (t := t) (cmp := cmp) hn (((L.length : Int) - 0).toNat + 1) 0 L.length (Nat.zero_le _) (Nat.le_refl _) (by omega)
  refine ⟨k, ?_, k3, fun hmono => k4 hmono (fun a h => absurd h (Nat.not_lt_zero _)) (fun a h1 h2 => by omega)⟩
  unfold bsF
  rw [show ((0 : Nat) : Int) = 0 from rfl] at k1
  rw [k1]
  by_cases h : k < L.length
  · have h' : (k : Int) < (L.length : Int) := by omega
    simp only [h', decide_true, cond_true, Int.toNat_natCast, h, true_and]
  · have h' : ¬ ((k : Int) < (L.length : Int)) := by omega
    simp only [h', decide_false, cond_false, h, false_and]

theorem bsF_bounds (hn : L.length ≤ 9223372036854775807) : 0 ≤ (bsF L t cmp).1 ∧ (bsF L t cmp).1 ≤ (L.length : Int) ∧ ((bsF L t cmp).2 = true → (bsF L t cmp).1 < (L.length : Int)) := by
  obtain ⟨k, k1, k2, _⟩ := bsF_spec (t := t) (cmp := cmp) hn
  rw [k1]
  refine ⟨by simp, by simp; omega, fun h => ?_⟩
  simp at h
  simp
  omega
end
end Go.Proofs.Ytmfggjebbhdejaa.Abs
