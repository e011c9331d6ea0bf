/- The plain law of ElectSteady, told of its two rows. -/
import Derived.Test.YtbgnflbbebnagaaY1
set_option linter.unusedVariables false
set_option linter.unusedSimpArgs false
namespace Go.Proofs.Ytbgnflbbebnagaa.Abs
open Go

theorem may_left {a b : List Cand} (h : mayS (a ++ b) = true) : mayS a = true := by
  simp only [mayS, Bool.and_eq_true, List.all_append, decide_eq_true_eq, List.map_append, List.length_append] at h ⊢
  exact ⟨h.1.1, by omega, (List.nodup_append.1 h.2.2).1⟩

theorem stood_has {l : List Cand} {id d b : Int} (h : hasS l id = true) : ∃ c ∈ l.map (stood d b), c.i = id ∧ c.d = d ∧ c.b = b ∧ 0 < c.p := by
  obtain ⟨c, hc, h1⟩ := List.any_eq_true.1 h
  simp only [Bool.and_eq_true, decide_eq_true_eq] at h1
  exact ⟨stood d b c, List.mem_map.2 ⟨c, hc, rfl⟩, h1.1, rfl, rfl, h1.2⟩

theorem steady (l : List Cand) (d b mi mp : Int) (hdb : d ≠ b) (hd : hasS l d = true) (hb : hasS l b = true) (hm : mayS (l.map (stood d b) ++ [⟨mi, mp, 0, 0⟩]) = true) :
    turnS (l.map (stood d b)) = (d, b) ∧ turnS (l.map (stood d b) ++ [⟨mi, mp, 0, 0⟩]) = (d, b) ∧ electP (l.map (stood d b) ++ [⟨mi, mp, 0, 0⟩]) mi = (d, b) ∧ settleS (l.map (stood d b)) = l.map (stood d b) := by
  have hmk := may_left hm
  obtain ⟨c, hc, c1, c2, c3, c4⟩ := stood_has (d := d) (b := b) hd
  obtain ⟨e, he, e1, e2, e3, e4⟩ := stood_has (d := d) (b := b) hb
  have hsk : ∀ x ∈ l.map (stood d b), x.d = d ∧ x.b = b := by
    intro x hx
    obtain ⟨y, _, rfl⟩ := List.mem_map.1 hx
    exact ⟨rfl, rfl⟩
  obtain ⟨f1, f2⟩ := steady_turn _ (may_ok hmk) d b hdb (fun x hx => .inl (hsk x hx)) ⟨c, hc, c1, c2, c4⟩ ⟨e, he, e1, e2, e3, e4⟩
  obtain ⟨g1, g2⟩ := steady_turn _ (may_ok hm) d b hdb (fun x hx => by
    rcases List.mem_append.1 hx with hx | hx
    · exact .inl (hsk x hx)
    · simp at hx; subst hx; exact .inr ⟨rfl, rfl⟩) ⟨c, List.mem_append_left _ hc, c1, c2, c4⟩ ⟨e, List.mem_append_left _ he, e1, e2, e3, e4⟩
  have hmi : mi ≠ 0 := (may_ok hm ⟨mi, mp, 0, 0⟩ (by simp)).1
  have hnd := may_nodup hm
  have hnot : ∀ y ∈ l.map (stood d b), y.i ≠ mi := by
    intro y hy h
    rw [List.map_append, List.nodup_append] at hnd
    exact hnd.2.2 y.i (List.mem_map.2 ⟨y, hy, rfl⟩) mi (by simp) h
  refine ⟨by simp [turnS, hmk, f1, f2], by simp [turnS, hm, g1, g2], ?_, ?_⟩
  · unfold electP
    rw [hm]
    simp only [if_true]
    cases hf : (l.map (stood d b) ++ [(⟨mi, mp, 0, 0⟩ : Cand)]).findIdx? (fun c => decide (c.i = mi)) with
    | none => rw [g1, g2]
    | some i =>
      obtain ⟨hlt, hi, _⟩ := List.findIdx?_eq_some_iff_getElem.1 hf
      have hmem := List.getElem_mem hlt
      have hx : (l.map (stood d b) ++ [(⟨mi, mp, 0, 0⟩ : Cand)])[i] = ⟨mi, mp, 0, 0⟩ := by
        rcases List.mem_append.1 hmem with h | h
        · exact absurd (of_decide_eq_true hi) (hnot _ h)
        · simpa using h
      have hget : (l.map (stood d b) ++ [(⟨mi, mp, 0, 0⟩ : Cand)])[i]? = some ⟨mi, mp, 0, 0⟩ := by rw [List.getElem?_eq_getElem hlt, hx]
      have hdm : ¬ d = mi := fun h => hnot c hc (by rw [c1, h])
      have hbm : ¬ b = mi := fun h => hnot e he (by rw [e1, h])
      have h0 : ¬ (0 : Int) = mi := fun h => hmi h.symm
      have hag : agree ⟨mi, mp, 0, 0⟩ mi d b = true := by simp [agree, hdm, hbm, h0]
      simp only [hget, g1, g2, hag, if_true]
  · unfold settleS
    rw [hmk]
    simp only [if_true]
    have key : ∀ x ∈ l.map (stood d b), says (l.map (stood d b)) x = x := by
      intro x hx
      obtain ⟨s1, s2⟩ := hsk x hx
      have hel : electP (l.map (stood d b)) x.i = (d, b) := by
        unfold electP
        rw [hmk]
        simp only [if_true]
        cases hf : (l.map (stood d b)).findIdx? (fun c => decide (c.i = x.i)) with
        | none => rw [f1, f2]
        | some i =>
          obtain ⟨hlt, _, _⟩ := List.findIdx?_eq_some_iff_getElem.1 hf
          have hget : (l.map (stood d b))[i]? = some (l.map (stood d b))[i] := List.getElem?_eq_getElem hlt
          obtain ⟨t1, t2⟩ := hsk _ (List.getElem_mem hlt)
          have hag : agree (l.map (stood d b))[i] x.i d b = true := by unfold agree; rw [t1, t2]; simp
          simp only [hget, f1, f2, hag, if_true]
      simp only [says, hel]
      cases x
      simp only at s1 s2
      rw [s1, s2]
    exact (List.map_congr_left key).trans (List.map_id' _)
end Go.Proofs.Ytbgnflbbebnagaa.Abs
