/- Rows in structs; make, copy, clear, remainders, ends of rows: typed. Generic over any program. -/
import Derived.Test.YtakallenldpkiaaDoorA27
import Derived.Test.YtakallenldpkiaaDoorA30
import Derived.Test.YtakallenldpkiaaDoorP0
set_option linter.unusedVariables false
set_option linter.unusedSimpArgs false
set_option linter.unusedSectionVars false
namespace Go.Proofs.YtakallenldpkiaaDoor.Abs
open Go
variable [DqC]

/-- The row that a cell of a temporary's struct holds goes over to a new id. -/
theorem Conv.mvA {k0 t j r sz n next : Nat} {cs : List PVal} {ty : TypeId} {es : List (List PVal)} {env : List (Nat × PVal)} {heap : List (AId × AObj)} (ht : env.lookup t = some (.agg cs)) (hj : cs[j]? = some (.own r sz 0 n)) (hr : heap.lookup r = some (.row sz ty es)) :
    Conv k0 ⟨env, heap, next⟩ ⟨(t, .agg (cs.set j (.own next sz 0 n))) :: env, delH r heap ++ [(next, .row sz ty es)], next + 1⟩ := by
  intro nn ds m ok a w hkn hS
  obtain ⟨B, hB, hob⟩ := hS.hp.obj r _ hr
  have hD : (fun i : AId => i < next ∨ i = next) = (· < next + 1) := by
    funext i
    show (i < next ∨ i = next) = (i < next + 1)
    exact propext ⟨fun h => h.elim Nat.lt_succ_of_lt fun e => e ▸ Nat.lt_succ_self _, fun h => Nat.lt_or_eq_of_le (Nat.le_of_lt_succ h)⟩
  obtain ⟨g1, g2, g3⟩ := hS.hp.reloc (w' := w) (some r) next B (.row sz ty es) rfl (Tp.refl w) rfl (Nat.le_refl _) (fun b hb hn => rfl) (.inr (Nat.lt_irrefl _))
    (fun b' t' e => by subst e; exact ⟨hS.hp.lt _ _ _ hB, .inr ⟨r, t', rfl, hB⟩⟩)
    (fun hst => by
      have hrs : ∀ p v, Rep w (okn ok m) (· < next) m true p v → Rep w (okn ok (fun i => if i = next then some B else if some r = some i then none else m i)) (fun i => i < next ∨ i = next) (fun i => if i = next then some B else if some r = some i then none else m i) true p v := fun p v hrp => hrp.step hst (fun _ => .inl) (by
        intro j hd
        by_cases e1 : j = next
        · subst e1; exact absurd hd (Nat.lt_irrefl _)
        · by_cases e2 : some r = some j
          · right; simp [e1, e2]
          · left; simp [e1, e2])
      cases B with
      | nil => exact hob
      | «at» b tot =>
        obtain ⟨vs, h1, h2, h3, h4, h5, h6, h7⟩ := hob
        exact ⟨vs, h1, h2, h3, h4, h5, h6, fun i j e p he hp => by
          obtain ⟨v, k1, k2, k3⟩ := h7 i j e p he hp
          exact ⟨v, k1, k2, hrs p v k3⟩⟩)
  rw [hD] at g1
  have hDD : ∀ i, i < next → i < next + 1 := fun i h => Nat.lt_succ_of_lt h
  refine ⟨_, ⟨⟨fun i o hi => ?_, g1.dom, g1.inj, g1.lt, g1.okm, g1.fresh, g1.glob⟩, fun t' p hp => ?_, hS.df, hS.sz⟩, g2, fun i hi => g3 i (Nat.lt_of_lt_of_le hi hkn), by show k0 ≤ next + 1; exact Nat.le_succ_of_le hkn⟩
  · rcases lookup_snoc (show (delH r heap ++ [(next, AObj.row sz ty es)]).lookup i = some o from hi) with h1 | ⟨_, h1, h2⟩
    · rw [lookup_delH] at h1
      split at h1
      · cases h1
      · rename_i e2
        obtain ⟨B', hB', _⟩ := hS.hp.obj i o h1
        have : i < next := hS.hp.dom i B' hB'
        exact g1.obj i o (by simp only [Nat.ne_of_lt this, if_false]; rw [if_neg (by simpa using fun e => e2 e.symm)]; exact h1)
    · subst h1 h2
      exact g1.obj _ _ (by simp)
  · have hp' : ((t, PVal.agg (cs.set j (.own next sz 0 n))) :: env).lookup t' = some p := hp
    by_cases e : t' = t
    · subst e
      simp [List.lookup] at hp'
      subst hp'
      obtain ⟨v, hv, hrep⟩ := hS.tmp t' _ ht
      refine ⟨v, hv, ?_⟩
      cases hrep with
      | agg hl h1 h2 =>
        refine .agg (by simpa using hl) h1 fun q p v hp hv => ?_
        by_cases hqj : q = j
        · subst hqj
          have hlt' : q < cs.length := (List.getElem?_eq_some_iff.1 hj).1
          have : p = .own next sz 0 n := by simpa [List.getElem?_set, hlt'] using hp.symm
          subst this
          have h3 := h2 q _ v hj hv
          cases h3 with
          | own hd h1 h =>
            refine .own (Nat.lt_succ_self _) h1 fun B' hB' => ?_
            simp only [if_true, Option.some.injEq] at hB'
            subst hB'
            exact h B hB
        · have hp' : cs[q]? = some p := by
            rw [List.getElem?_set] at hp
            simpa [show ¬ j = q from fun e => hqj e.symm] using hp
          exact (h2 q p v hp' hv).step g2 hDD g3
    · have : (t' == t) = false := by simpa using e
      simp only [List.lookup, this] at hp'
      obtain ⟨v, hv, hrep⟩ := hS.tmp t' p hp'
      exact ⟨v, hv, hrep.step g2 hDD g3⟩
theorem WK.mvA {P : Program} {nn k0 t j r sz n next : Nat} {cs : List PVal} {ty : TypeId} {es : List (List PVal)} {env : List (Nat × PVal)} {heap heap' : List (AId × AObj)} {Q : Exit → St → Prop} {rr : List AC} (ht : env.lookup t = some (.agg cs)) (hj : cs[j]? = some (.own r sz 0 n)) (hr : heap.lookup r = some (.row sz ty es)) (hrr : rr ≠ [])
    (hh : delH r heap ++ [(next, .row sz ty es)] = heap') (k : WK P nn k0 rr Q ⟨(t, .agg (cs.set j (.own next sz 0 n))) :: env, heap', next + 1⟩) : WK P nn k0 rr Q ⟨env, heap, next⟩ := by
  subst hh
  exact WK.conv (Conv.mvA ht hj hr) k hrr

/-- make, of typed elements. -/
theorem core_mkT {α : Type} {c : α → List PVal} {x0 : α} {h : Heap} {nx sz by_ n : Nat} {ty : TypeId} {zs : List PVal} {k1 k2 : IntKind} {l c' : Int} (hl : l = (n : Int)) (hc : c' = (n : Int)) (hz : zs = c x0) (hb : by_ * n ≤ 281474976710656) (hm : n ≤ 9223372036854775807) :
    core (.mkslice sz ty by_ zs) [.int k1 l, .int k2 c'] h nx = some { v := .own nx sz 0 n, wh := [(nx, some (.row sz ty ((List.replicate n x0).map c)))], nw := [nx] } := by
  subst hl hc hz
  simp only [core]
  rw [if_pos ⟨trivial, by omega, by simpa using hb, by simpa [maxLen] using hm⟩]
  simp
theorem core_copyT {α : Type} {c : α → List PVal} {h : Heap} {nx id sz : Nat} {ty : TypeId} {L X : List α} {x : PVal} {rh : List AId} (ho : h id = some (.row sz ty (L.map c))) (he : elemsU h L.length x = some (sz, (X.map c).take L.length, rh)) (h0 : 0 < L.length) :
    core (.copy sz) [.own id sz 0 L.length, x] h nx = some { v := .int .i64 ((X.take L.length).length : Nat), rh := id :: rh, wh := [(id, some (.row sz ty ((cpy_ L X).map c)))] } := by
  simp only [core, ho, he]
  rw [if_pos ⟨trivial, trivial, trivial, by simp, h0⟩]
  simp [cpy_, overE, List.map_take, List.map_drop]
theorem core_clearT {α : Type} {c : α → List PVal} {x0 : α} {h : Heap} {nx id sz lo m : Nat} {ty : TypeId} {L : List α} {zs : List PVal} (ho : h id = some (.row sz ty (L.map c))) (hlo : lo + m = L.length) (hm : 0 < m) (hmm : m = L.length - lo) (hz : zs = c x0) :
    core (.clear sz zs) [.own id sz lo m] h nx = some { v := .hole, rh := [id], wh := [(id, some (.row sz ty ((L.take lo ++ List.replicate (L.length - lo) x0).map c)))] } := by
  subst hz
  simp only [core, ho]
  rw [if_pos ⟨trivial, trivial, by simp; omega, hm⟩]
  have : (L.map c).drop (lo + m) = [] := by rw [List.drop_eq_nil_iff]; simp; omega
  simp [overE, this, List.map_take, ← hmm]
theorem core_remT {h : Heap} {nx : AId} {ek : EK} {k : IntKind} {a b : Int} (hb : b ≠ 0) : core (.bin .rem ek) [.int k a, .int k b] h nx = some { v := .int k (Int.tmod a b) } := by
  simp [core, coreBin, binV, binInt, hb]
/-- The end of a row of one's own. -/
theorem core_sliceRlo {α : Type} {c : α → List PVal} {h : Heap} {nx id sz n n' : Nat} {ty : TypeId} {L : List α} {ik : IntKind} {i : Int} (lo : Nat) (ho : h id = some (.row sz ty (L.map c))) (hi : i = (lo : Int)) (hn : lo ≤ n) (hn' : n - lo = n') :
    core (.slice sz true false) [.own id sz 0 n, .int ik i] h nx = some { v := .own id sz lo n', rh := [id] } := by
  subst hi hn'
  simp only [core, ho, sbnd]
  rw [if_pos ⟨by omega, by omega⟩]
  simp

/-- The front of a row of one's own, whose length is told in other words. -/
theorem core_sliceRhiM {α : Type} {c : α → List PVal} {h : Heap} {nx id sz m : Nat} {ty : TypeId} {L : List α} {ik : IntKind} {i : Int} (ho : h id = some (.row sz ty (L.map c))) (h0 : 0 ≤ i) (h1 : i ≤ (m : Int)) (hm : m ≤ L.length) :
    core (.slice sz false true) [.own id sz 0 m, .int ik i] h nx = some { v := .own id sz 0 (L.take i.toNat).length, rh := [id] } := by
  have e : (L.take i.toNat).length = i.toNat := by rw [List.length_take]; omega
  rw [e]
  simp only [core, ho, sbnd]
  rw [if_pos ⟨h0, h1⟩]
  simp

theorem cpy_len {α : Type} (L X : List α) : (cpy_ L X).length = L.length := by
  simp only [cpy_, List.length_append, List.length_take, List.length_drop]
  omega

end Go.Proofs.YtakallenldpkiaaDoor.Abs
