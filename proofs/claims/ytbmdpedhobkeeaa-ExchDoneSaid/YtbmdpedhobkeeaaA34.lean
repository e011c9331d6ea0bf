/- A row of which the first elements are forgotten (a queue). Generic over any program. -/
import Derived.Test.YtbmdpedhobkeeaaA27
import Derived.Test.YtbmdpedhobkeeaaA30
set_option linter.unusedVariables false
set_option linter.unusedSimpArgs false
namespace Go.Proofs.Ytbmdpedhobkeeaa.Abs
open Go

/-- The row of which a box's cell holds the end goes over to a new id, without what stands ahead of it. -/
theorem Conv.rbB {k0 id j r sz lo n next : Nat} {ty : TypeId} {cs : List PVal} {es : List (List PVal)} {env : List (Nat × PVal)} {heap : List (AId × AObj)} (ho : heap.lookup id = some (.box cs)) (hj : cs[j]? = some (.own r sz lo n)) (hr : heap.lookup r = some (.row sz ty es)) (hlo : lo ≤ es.length) :
    Conv k0 ⟨env, heap, next⟩ ⟨env, setH id (.box (cs.set j (.own next sz 0 n))) (delH r heap) ++ [(next, .row sz ty (es.drop lo))], next + 1⟩ := by
  intro nn ds m ok a w hkn hS
  obtain ⟨B, hB, hob⟩ := hS.hp.obj r _ hr
  obtain ⟨Bb, hBb, hbox⟩ := hS.hp.obj id _ ho
  have hne : id ≠ r := fun e => by
    subst e
    rw [ho] at hr
    cases hr
  have hrn : r < next := hS.hp.dom r B hB
  have hin : id < next := hS.hp.dom id Bb hBb
  have hD : (fun i : AId => i < next ∨ i = next) = (· < next + 1) := by
    funext i
    show (i < next ∨ i = next) = (i < next + 1)
    exact propext ⟨fun h => h.elim Nat.lt_succ_of_lt fun e => e ▸ Nat.lt_succ_self _, fun h => Nat.lt_or_eq_of_le (Nat.le_of_lt_succ h)⟩
  obtain ⟨B', hB1, hB2, hB3⟩ : ∃ B', (∀ b t, B' = .at b t → ∃ t', B = .at b t') ∧ (∀ v, OwnVal B sz lo n v → OwnVal B' sz 0 n v) ∧ RepObj w ok (· < next) m (.row sz ty (es.drop lo)) B' := by
    cases B with
    | nil =>
      obtain ⟨he, h0⟩ := hob
      exact ⟨.nil, (fun b t e => by cases e), fun v h => ⟨h.1, rfl, h.2.2⟩, by rw [he]; simp, h0⟩
    | «at» b t => exact ⟨.at b ⟨t.tot, t.base + lo⟩, (fun b' t' e => by injection e with e1 _; exact ⟨t, by rw [e1]⟩), fun v h => rebase_own h, rebase_row hob hlo⟩
  obtain ⟨g1, g2, g3⟩ := hS.hp.reloc (w' := w) (some r) next B' (.row sz ty (es.drop lo)) rfl rfl rfl (Nat.le_refl _) (fun b hb hn => rfl) (.inr (Nat.lt_irrefl _))
    (fun b' t' e => by obtain ⟨t2, e2⟩ := hB1 b' t' e; subst e2; exact ⟨hS.hp.lt _ _ _ hB, .inr ⟨r, t2, rfl, hB⟩⟩)
    (fun hst => by
      have hrs : ∀ p v, Rep w (okn ok m) (· < next) m true p v → Rep w (okn ok (fun i => if i = next then some B' else if some r = some i then none else m i)) (fun i => i < next ∨ i = next) (fun i => if i = next then some B' else if some r = some i then none else m i) true p v := fun p v hrp => hrp.step hst (fun _ => .inl) (by
        intro j hd
        by_cases e1 : j = next
        · subst e1; exact absurd hd (Nat.lt_irrefl _)
        · by_cases e2 : some r = some j
          · right; simp [e1, e2]
          · left; simp [e1, e2])
      cases B' with
      | nil => exact hB3
      | «at» b tot =>
        obtain ⟨vs, h1, h2, h3, h4, h5, h6, h7⟩ := hB3
        exact ⟨vs, h1, h2, h3, h4, h5, h6, fun i j e p he hp => by
          obtain ⟨v, k1, k2, k3⟩ := h7 i j e p he hp
          exact ⟨v, k1, k2, hrs p v k3⟩⟩)
  rw [hD] at g1
  have hDD : ∀ i, i < next → i < next + 1 := fun i h => Nat.lt_succ_of_lt h
  refine ⟨_, ⟨⟨fun i o hi => ?_, g1.dom, g1.inj, g1.lt, g1.okm, g1.fresh, g1.glob⟩, fun t' p hp => ?_, hS.df, hS.sz⟩, g2, fun i hi => g3 i (Nat.lt_of_lt_of_le hi hkn), by show k0 ≤ next + 1; exact Nat.le_succ_of_le hkn⟩
  · rcases lookup_snoc (show (setH id (.box (cs.set j (.own next sz 0 n))) (delH r heap) ++ [(next, AObj.row sz ty (es.drop lo))]).lookup i = some o from hi) with h1 | ⟨_, h1, h2⟩
    · rw [lookup_setH] at h1
      split at h1
      · rename_i e
        subst e
        injection h1 with h1
        subst h1
        refine ⟨Bb, by simp only [Nat.ne_of_lt hin, if_false]; rw [if_neg (by simpa using fun e => hne e.symm)]; exact hBb, ?_⟩
        cases Bb with
        | nil => exact hbox.elim
        | «at» b t =>
          obtain ⟨vs, ty', c1, c2, c3⟩ := hbox
          refine ⟨vs, ty', c1, by simpa using c2, fun q p hq => ?_⟩
          by_cases hqj : q = j
          · subst hqj
            have hlt' : q < cs.length := (List.getElem?_eq_some_iff.1 hj).1
            have : p = .own next sz 0 n := by simpa [List.getElem?_set, hlt'] using hq.symm
            subst this
            obtain ⟨v, b1, b2, b3⟩ := c3 q _ hj
            refine ⟨v, b1, b2, ?_⟩
            cases b3 with
            | own hd h1 h =>
              refine .own (Nat.lt_succ_self _) h1 fun B2 hB4 => ?_
              simp only [if_true, Option.some.injEq] at hB4
              subst hB4
              exact hB2 v (h B hB)
          · have hq' : cs[q]? = some p := by
              rw [List.getElem?_set] at hq
              simpa [show ¬ j = q from fun e => hqj e.symm] using hq
            obtain ⟨v, b1, b2, b3⟩ := c3 q p hq'
            exact ⟨v, b1, b2, b3.step g2 hDD g3⟩
      · rw [lookup_delH] at h1
        split at h1
        · cases h1
        · rename_i e1 e2
          obtain ⟨B', hB', _⟩ := hS.hp.obj i o h1
          have : i < next := hS.hp.dom i B' hB'
          exact g1.obj i o (by simp only [Nat.ne_of_lt this, if_false]; rw [if_neg (by simpa using fun e => e2 e.symm)]; exact h1)
    · subst h1 h2
      exact g1.obj _ _ (by simp)
  · obtain ⟨v, hv, hrep⟩ := hS.tmp t' p hp
    exact ⟨v, hv, hrep.step g2 hDD g3⟩
theorem WK.rbB {P : Program} {nn k0 id j r sz lo n next : Nat} {ty : TypeId} {cs : List PVal} {es : List (List PVal)} {env : List (Nat × PVal)} {heap heap' : List (AId × AObj)} {Q : Exit → St → Prop} {rr : List AC} (ho : heap.lookup id = some (.box cs)) (hj : cs[j]? = some (.own r sz lo n)) (hr : heap.lookup r = some (.row sz ty es)) (hlo : lo ≤ es.length) (hrr : rr ≠ [])
    (hh : setH id (.box (cs.set j (.own next sz 0 n))) (delH r heap) ++ [(next, .row sz ty (es.drop lo))] = heap') (k : WK P nn k0 rr Q ⟨env, heap', next + 1⟩) : WK P nn k0 rr Q ⟨env, heap, next⟩ := by
  subst hh
  exact WK.conv (Conv.rbB ho hj hr hlo) k hrr

/-- .. of typed elements. -/
theorem WK.rbBT {α : Type} {c : α → List PVal} {P : Program} {nn k0 id j r sz lo n next : Nat} {ty : TypeId} {cs : List PVal} {L : List α} {env : List (Nat × PVal)} {heap heap' : List (AId × AObj)} {Q : Exit → St → Prop} {rr : List AC} (ho : heap.lookup id = some (.box cs)) (hj : cs[j]? = some (.own r sz lo n)) (hr : heap.lookup r = some (.row sz ty (L.map c))) (hlo : lo ≤ L.length) (hn : n = (L.drop lo).length) (hrr : rr ≠ [])
    (hh : setH id (.box (cs.set j (.own next sz 0 (L.drop lo).length))) (delH r heap) ++ [(next, .row sz ty ((L.drop lo).map c))] = heap') (k : WK P nn k0 rr Q ⟨env, heap', next + 1⟩) : WK P nn k0 rr Q ⟨env, heap, next⟩ := by
  subst hn
  exact WK.rbB ho hj hr (by rw [List.length_map]; exact hlo) hrr (by rw [← List.map_drop]; exact hh) k

/-- The end of a row of one's own. -/
theorem core_sliceRlo {α : Type} {c : α → List PVal} {h : Heap} {nx id sz n n' : Nat} {ty : TypeId} {L : List α} {ik : IntKind} {i : Int} (lo : Nat) (ho : h id = some (.row sz ty (L.map c))) (hi : i = (lo : Int)) (hn : lo ≤ n) (hn' : n - lo = n') :
    core (.slice sz true false) [.own id sz 0 n, .int ik i] h nx = some { v := .own id sz lo n', rh := [id] } := by
  subst hi hn'
  simp only [core, ho, sbnd]
  rw [if_pos ⟨by omega, by omega⟩]
  simp

/-- append to the end of a row of one's own. -/
theorem core_appLo {α : Type} {c : α → List PVal} {h : Heap} {nx id sz by_ lo m u : Nat} {ty : TypeId} {L X : List α} {x : PVal} {rh2 : List AId} (ho : h id = some (.row sz ty (L.map c))) (he : elems h x = some (sz, X.map c, rh2)) (hm : lo + m = L.length)
    (hb : (m + X.length) * by_ ≤ 140737488355328) (hl : m + X.length ≤ 9223372036854775807) (hid : rh2.contains id = false) (hu : m + X.length = u) :
    core (.append sz ty by_) [.own id sz lo m, x] h nx = some { v := .own nx sz 0 u, rh := id :: rh2, wh := [(nx, some (.row sz ty ((L.drop lo ++ X).map c))), (id, none)], nw := [nx] } := by
  subst hu
  simp only [core, he, ho]
  rw [if_pos]
  · simp [List.map_append, List.map_drop]
  · refine ⟨trivial, trivial, trivial, trivial, by simpa using hm, by simpa using hb, by simpa [maxLen] using hl, ?_⟩
    intro hmem
    rw [List.contains_eq_mem] at hid
    simp [hmem] at hid

end Go.Proofs.Ytbmdpedhobkeeaa.Abs
