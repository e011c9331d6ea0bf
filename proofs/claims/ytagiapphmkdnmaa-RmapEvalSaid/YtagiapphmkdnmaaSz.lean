/- Sizes: what the laws ask about is small. -/
import Derived.Test.YtagiapphmkdnmaaIx
set_option linter.unusedVariables false
namespace Go.Proofs.Ytagiapphmkdnmaa.Abs
open Go

theorem may03_len {p : TPrefix} {c : Bool} (h : F53_crossroadsref03_May p = c) (hc : c = true) : p.N ≤ 32 := by
  subst hc
  unfold F53_crossroadsref03_May at h
  by_cases h1 : p.N < 0
  · omega
  · by_cases h2 : 32 < p.N
    · simp [h1, h2] at h
    · omega

theorem small_l1 : ∀ (m : List TClause) (i : Nat), i ≤ 20 → (∀ r, F7_crossroadslaw08_small_l1 i m = .error r → r = false) ∧ (F7_crossroadslaw08_small_l1 i m = .ok () → i + m.length ≤ 20 ∧ ∀ x ∈ m, x.Listf.length ≤ 20 ∧ x.MTags.length ≤ 20)
  | [], i, hi => by simp [F7_crossroadslaw08_small_l1]; exact hi
  | x :: m, i, hi => by
    unfold F7_crossroadslaw08_small_l1
    by_cases h1 : (i : Int) = 20
    · simp [h1]
    · by_cases h2 : (20 : Int) < x.Listf.length
      · simp [h1, h2]
      · by_cases h3 : (20 : Int) < x.MTags.length
        · simp [h1, h2, h3]
        · obtain ⟨g1, g2⟩ := small_l1 m (i + 1) (by omega)
          simp only [h1, h2, h3, decide_false, cond_false]
          refine ⟨g1, fun h => ?_⟩
          obtain ⟨k1, k2⟩ := g2 h
          refine ⟨by simp; omega, fun y hy => ?_⟩
          rcases List.mem_cons.1 hy with rfl | hy
          · omega
          · exact k2 y hy

theorem small_all {m : List TClause} (h : F7_crossroadslaw08_small m = true) : m.length ≤ 20 ∧ ∀ x ∈ m, x.Listf.length ≤ 20 ∧ x.MTags.length ≤ 20 := by
  obtain ⟨g1, g2⟩ := small_l1 m 0 (by omega)
  unfold F7_crossroadslaw08_small at h
  split at h
  · rename_i r hr
    have := g1 _ hr
    simp [this] at h
  · rename_i hr
    have := g2 hr
    simpa using this
theorem small_len {m : List TClause} {c : Bool} (h : F7_crossroadslaw08_small m = c) (hc : c = true) : m.length ≤ 1048576 := by
  have := (small_all (h.trans hc)).1
  omega
theorem small_rules {m : List TClause} {c : Bool} (h : F7_crossroadslaw08_small m = c) (hc : c = true) : ∀ x ∈ m, x.Listf.length ≤ 1048576 := fun x hx => by
  have := ((small_all (h.trans hc)).2 x hx).1
  omega
end Go.Proofs.Ytagiapphmkdnmaa.Abs
