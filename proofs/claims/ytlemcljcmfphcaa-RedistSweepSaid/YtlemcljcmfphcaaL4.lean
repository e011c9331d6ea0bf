/- RedistPlays and RedistSweep, of the Lean functions. Plain law: no program in sight. -/
import Derived.Test.YtlemcljcmfphcaaL3
import Derived.Test.YtlemcljcmfphcaaTy
import Derived.KernelRfl
set_option linter.unusedVariables false
set_option linter.unusedSimpArgs false
namespace Go.Proofs.Ytlemcljcmfphcaa.Abs
open Go

theorem alive_true : F8_crossroadslaw28_alive = true := by kernel_rfl

theorem borders_l1 : ∀ (l out : List TBorder), F5_crossroadslaw28_RedistSweep_l1 out l = out ++ l
  | [], out => by simp [F5_crossroadslaw28_RedistSweep_l1]
  | x :: l, out => by
    unfold F5_crossroadslaw28_RedistSweep_l1
    simp only [F14_crossroadslaw28_border, borders_l1 l]
    simp

theorem redistSweep_true (tags : List Int) (script : List TAct) (l : List TBorder) (h0 : ∀ y ∈ tags, InK .u32 y) (h1 : ∀ y ∈ script, TAct.ok y) (h2 : ∀ y ∈ l, TBorder.ok y) : F5_crossroadslaw28_RedistSweep tags script l = true := by
  unfold F5_crossroadslaw28_RedistSweep
  have hw := built_inv tags script
  generalize F9_crossroadslaw28_built tags script = r at hw
  obtain ⟨w, ok⟩ := r
  cases ok with
  | false => simp only [cond_false, alive_true]
  | true =>
    simp only [cond_true]
    by_cases h : (20 : Int) < l.length
    · simp only [h, decide_true, cond_true, alive_true]
    · simp only [h, decide_false, cond_false, alive_true, plain_eq, borders_l1, List.nil_append, (sweep_both hw l).1, same_eq]
      simp

theorem plays_l1 : ∀ (l : List TAct) (w : TWorld) (acts : List TAct) (i : Nat), InvW w → ∃ v A, F4_crossroadslaw28_RedistPlays_l1 w w acts acts i l = .ok (v, v, A, A)
  | [], w, acts, i, h => ⟨w, acts, by unfold F4_crossroadslaw28_RedistPlays_l1; rfl⟩
  | a :: l, w, acts, i, h => by
    unfold F4_crossroadslaw28_RedistPlays_l1
    by_cases hi : (i : Int) < 100
    · have e1 := own_inv h a.B.From a.P
      have e2 := tell_inv h a.B a.P
      have e3 := cease_inv h a.B.From a.P
      simp only [hi, decide_true, cond_true, F14_crossroadslaw28_border, F23_crossroadslaw28_ext, plain_eq, same_eq, own_ref h, tell_refe h, cease_ref h, ← has_eq e1, ← has_eq e2, ← has_eq e3, ← has_eq h, beq_self_eq_true, Bool.and_true]
      by_cases h1 : a.Kind = 1
      · simp only [decide_eq_true h1, cond_true]
        exact plays_l1 l _ (acts ++ [a]) (i + 1) e1
      · by_cases h2 : a.Kind = 2
        · simp only [decide_eq_false h1, decide_eq_true h2, cond_true, cond_false]
          exact plays_l1 l _ (acts ++ [a]) (i + 1) e2
        · by_cases h3 : a.Kind = 3
          · simp only [decide_eq_false h1, decide_eq_false h2, decide_eq_true h3, cond_true, cond_false]
            exact plays_l1 l _ (acts ++ [a]) (i + 1) e3
          · simp only [decide_eq_false h1, decide_eq_false h2, decide_eq_false h3, cond_false]
            exact plays_l1 l w (acts ++ [a]) (i + 1) h
    · simp only [hi, decide_false, cond_false]
      exact ⟨w, acts, rfl⟩

theorem redistPlays_true (tags : List Int) (script : List TAct) (h0 : ∀ y ∈ tags, InK .u32 y) (h1 : ∀ y ∈ script, TAct.ok y) : F4_crossroadslaw28_RedistPlays tags script = true := by
  unfold F4_crossroadslaw28_RedistPlays
  by_cases h : (20 : Int) < tags.length
  · simp only [h, decide_true, cond_true, alive_true]
  · have hw := new_inv tags
    simp only [h, decide_false, cond_false, ← new_both]
    generalize F10_redist_New tags = r at hw
    obtain ⟨w, e⟩ := r
    obtain ⟨v, A, hA⟩ := plays_l1 script w [] 0 hw
    simp only [plain_eq, same_eq, hA, alive_true, wsame_eq, (run_both hw A).1]
    simp
end Go.Proofs.Ytlemcljcmfphcaa.Abs
