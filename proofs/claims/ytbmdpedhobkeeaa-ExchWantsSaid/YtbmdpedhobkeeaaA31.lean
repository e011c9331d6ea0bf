/- Arguments opened with their sizes: each row inside of an argument has no more elements than can be reached. Generic over any program. -/
import Derived.Test.YtbmdpedhobkeeaaA23
set_option linter.unusedVariables false
set_option linter.unusedSimpArgs false
namespace Go.Proofs.Ytbmdpedhobkeeaa.Abs
open Go Go.ChangeShapes Go.WideShapes Go.ChangeAt Go.RowKit

/-- These cells are a value of the type. -/
def TypedS (P : Program) : Nat → TypeId → List PVal → Prop
  | 0, _, _ => False
  | n + 1, t, cs => match P.underlying t with
    | some (.int k) => ∃ i, cs = [.int k i] ∧ InK k i
    | some .bool => ∃ b, cs = [.bool b]
    | some .string => ∃ s : ByteArray, cs = [.str s] ∧ s.size ≤ maxLen
    | some (.slice e) => ∃ es, cs = [.ro (P.cellsOf e) es] ∧ es.length * P.bytesOf e ≤ reachBytes ∧ ∀ x ∈ es, TypedS P n e x
    | some (.struct fs) => TypedL (TypedS P n) fs.toList cs
    | _ => False

section
variable {H : Type} {enc : TypeId × Value → H} {P : Program} {w : World} {base : Nat} {spare : Nat → Bool} {held : Bool}

theorem weightsAll_mem {d : DataW H} {e : TypeId} {q : Nat} : ∀ {l : List (DataW H)}, d ∈ l → q ∈ d.weights P e → q ∈ DataW.weightsAll P e l
  | [], h, _ => by cases h
  | a :: l, h, hq => by
    simp only [DataW.weightsAll, List.mem_append]
    rcases List.mem_cons.1 h with rfl | h
    · exact .inl hq
    · exact .inr (weightsAll_mem h hq)

theorem lay_openS {n fuel : Nat} {cs : List Value} (IH : ∀ (t : TypeId) (cs : List Value) (x : DataW H × List MemPlace), plainT P n t = true → DataW.trod enc P w base spare held fuel t cs = some x → (∀ n ∈ x.1.weights P t, n ≤ reachBytes) → ∃ ps, TypedS P n t ps ∧ Reps w OKB (· < 0) (fun _ => none) true ps cs ∧ ∀ v ∈ cs, v.oneCell' = true) :
    ∀ (fs : List Field) (off : Nat), layB P fs off cs.length = true → (∀ f ∈ fs, plainT P n f.type = true) → (∀ f ∈ fs, ∃ y, DataW.trod enc P w base spare held fuel f.type ((cs.drop f.offset).take (P.cellsOf f.type)) = some y ∧ ∀ n ∈ y.1.weights P f.type, n ≤ reachBytes) →
      ∃ ps, TypedL (TypedS P n) fs ps ∧ Reps w OKB (· < 0) (fun _ => none) true ps (cs.drop off) ∧ ∀ v ∈ cs.drop off, v.oneCell' = true
  | [], off, hl, _, _ => by
    simp only [layB, beq_iff_eq] at hl
    subst hl
    rw [List.drop_length]
    exact ⟨[], rfl, Reps.nil .., fun v hv => by cases hv⟩
  | f :: r, off, hl, hp, ht => by
    simp only [layB, Bool.and_eq_true, beq_iff_eq] at hl
    obtain ⟨ho, hl⟩ := hl
    obtain ⟨y, hy, hyw⟩ := ht f List.mem_cons_self
    obtain ⟨a, h1, h2, h3⟩ := IH _ _ _ (hp f List.mem_cons_self) hy hyw
    obtain ⟨b, k1, k2, k3⟩ := lay_openS IH r _ hl (fun g hg => hp g (List.mem_cons_of_mem _ hg)) (fun g hg => ht g (List.mem_cons_of_mem _ hg))
    have hd : cs.drop off = (cs.drop f.offset).take (P.cellsOf f.type) ++ cs.drop (off + P.cellsOf f.type) := by
      rw [ho, ← List.drop_drop, List.take_append_drop]
    refine ⟨a ++ b, ⟨a, b, rfl, h1, k1⟩, ?_, ?_⟩
    · rw [hd]; exact h2.append k2
    · rw [hd]
      intro v hv
      rcases List.mem_append.1 hv with hv | hv
      · exact h3 v hv
      · exact k3 v hv

theorem open_anyS : ∀ (n fuel : Nat) (t : TypeId) (cs : List Value) (x : DataW H × List MemPlace), plainT P n t = true → DataW.trod enc P w base spare held fuel t cs = some x → (∀ n ∈ x.1.weights P t, n ≤ reachBytes) →
    ∃ ps, TypedS P n t ps ∧ Reps w OKB (· < 0) (fun _ => none) true ps cs ∧ ∀ v ∈ cs, v.oneCell' = true
  | 0, _, _, _, _, hp, _, _ => by simp [plainT] at hp
  | n + 1, fuel, t, cs, x, hp, h, hW => by
    simp only [plainT] at hp
    split at hp
    · rename_i k ht
      obtain ⟨i, rfl, hi⟩ := trod_int ht h
      exact ⟨[.int k i], by simp only [TypedS, ht]; exact ⟨i, rfl, hi⟩, Reps.cons .int (Reps.nil ..), by simp [Value.oneCell']⟩
    · rename_i ht
      obtain ⟨b, rfl⟩ := trod_bool ht h
      exact ⟨[.bool b], by simp only [TypedS, ht]; exact ⟨b, rfl⟩, Reps.cons .bool (Reps.nil ..), by simp [Value.oneCell']⟩
    · rename_i ht
      obtain ⟨s, rfl, hs⟩ := trod_string ht h
      exact ⟨[.str s], by simp only [TypedS, ht]; exact ⟨s, rfl, hs⟩, Reps.cons .str (Reps.nil ..), by simp [Value.oneCell']⟩
    · rename_i e ht
      rcases Deep.open_slice ht h with ⟨rfl, _⟩ | ⟨a, len, cap, m, n', D, Pl, rfl, hb, hl, hm, hmm, hxe, hx⟩
      · exact ⟨[.ro (P.cellsOf e) []], by simp only [TypedS, ht]; exact ⟨[], rfl, by simp, fun x hx => by cases hx⟩,
          Reps.cons (.ro (ad := ⟨0, 0, none⟩) (fun _ _ => default) rfl (Nat.le_refl _) (Nat.zero_le _) (fun e he => by cases he) (fun h => by cases h) (fun i j e p he => by simp at he) (fun i j e p he => by simp at he)) (Reps.nil ..), by simp [Value.oneCell']⟩
      · have hlm : len ≤ m := by rw [hmm]; split <;> omega
        rw [hxe] at hW
        simp only [DataW.weights, ht, List.length_map, List.length_range, List.mem_cons, List.mem_append] at hW
        have hW0 : (len + (m - len)) * P.bytesOf e ≤ reachBytes := hW _ (.inl rfl)
        have hW1 : len * P.bytesOf e ≤ reachBytes := Nat.le_trans (Nat.mul_le_mul_right _ (by omega)) hW0
        have hWi : ∀ i, i < len → ∀ q ∈ (D i).weights P e, q ≤ reachBytes := fun i hi q hq => hW q (.inr (.inl (weightsAll_mem (List.mem_map.2 ⟨i, List.mem_range.2 hi, rfl⟩) hq)))
        have hc : ∀ i, i < len → ∃ q : List PVal × List Value, TypedS P n e q.1 ∧ Reps w OKB (· < 0) (fun _ => none) true q.1 q.2 ∧ (∀ v ∈ q.2, v.oneCell' = true) ∧ q.2.length = P.cellsOf e ∧ ∀ j, j < P.cellsOf e → w.cell? ((a.add (i * P.cellsOf e)).add j) = q.2[j]? := by
          intro i hi
          obtain ⟨cs', h1, h2⟩ := hx i (by omega)
          obtain ⟨_, h4, h3⟩ := World.cells?_some h1
          obtain ⟨ps, g1, g2, g3⟩ := open_anyS n n' e cs' _ hp h2 (hWi i hi)
          exact ⟨(ps, cs'), g1, g2, g3, h4, fun j hj => h3 j hj⟩
        obtain ⟨C, hC⟩ := Deep.choose_lt (α := List PVal × List Value) hc
        have hget : ∀ (i j : Nat) (e' : List PVal) (p : PVal), ((List.range len).map fun i => (C i).1)[i]? = some e' → e'[j]? = some p → i < len ∧ e' = (C i).1 ∧ j < P.cellsOf e ∧ ∃ v, (C i).2[j]? = some v := by
          intro i j e' p he hp
          have hi : i < len := by have := (List.getElem?_eq_some_iff.1 he).1; simpa using this
          rw [List.getElem?_map, List.getElem?_range hi] at he
          simp only [Option.map_some, Option.some.injEq] at he
          subst he
          obtain ⟨c1, c2, c3, c4, c5⟩ := hC i hi
          have hj := (List.getElem?_eq_some_iff.1 hp).1
          rw [c2.1] at hj
          exact ⟨hi, rfl, by omega, _, List.getElem?_eq_getElem hj⟩
        refine ⟨[.ro (P.cellsOf e) ((List.range len).map fun i => (C i).1)], ?_, Reps.cons (.ro (ad := a) (fun i j => ((C i).2[j]?).getD default) (by simp) hl hm (fun e' he => ?_) (fun _ => rfl) (fun i j e' p he hp' => ?_) (fun i j e' p he hp' => ?_)) (Reps.nil ..), by simp [Value.oneCell']⟩
        · simp only [TypedS, ht]
          refine ⟨_, rfl, by simpa using hW1, fun x hx' => ?_⟩
          obtain ⟨i, hi, rfl⟩ := List.mem_map.1 hx'
          exact (hC i (List.mem_range.1 hi)).1
        · obtain ⟨i, hi, rfl⟩ := List.mem_map.1 he
          obtain ⟨c1, c2, c3, c4, c5⟩ := hC i (List.mem_range.1 hi)
          rw [c2.1, c4]
        · obtain ⟨hi, rfl, hj, v, hv⟩ := hget i j e' p he hp'
          obtain ⟨c1, c2, c3, c4, c5⟩ := hC i hi
          rw [hv]
          refine ⟨⟨trivial, fun id t e => by cases e⟩, ?_, c3 v (List.mem_of_getElem? hv)⟩
          rw [← add_add', c5 j hj, hv]
          rfl
        · obtain ⟨hi, rfl, hj, v, hv⟩ := hget i j e' p he hp'
          obtain ⟨c1, c2, c3, c4, c5⟩ := hC i hi
          rw [hv]
          exact c2.2 j p v hp' hv
    · rename_i fs ht
      simp only [Bool.and_eq_true, List.all_eq_true] at hp
      obtain ⟨xs, n', hfuel, hxe, hlen, hxl, hf⟩ := DataW.trod_struct ht h
      rw [hxe] at hW
      simp only [DataW.weights, ht] at hW
      obtain ⟨ps, h1, h2, h3⟩ := lay_openS (cs := cs) (n := n) (fuel := n') (fun t cs x hp h hW => open_anyS n n' t cs x hp h hW) fs.toList 0 (by rw [hlen]; exact hp.1) hp.2 (fun f hf' => by
        obtain ⟨i, hi, rfl⟩ := List.mem_iff_getElem.1 hf'
        have := hf i fs[i] (by simp)
        have hx : i < xs.length := by rw [hxl]; simpa using hi
        refine ⟨xs[i], by simpa [List.getElem?_eq_getElem hx] using this, fun q hq => hW q (DataW.weights_mem_each (j := i) (t := (fs.toList[i]).type) (d := xs[i].1) (by rw [List.getElem?_map, List.getElem?_eq_getElem hi]; rfl) (by simp [hx]) q hq)⟩)
      rw [List.drop_zero] at h2 h3
      exact ⟨ps, by simp only [TypedS, ht]; exact h1, h2, h3⟩
    · cases hp

/-- An argument of a scalar type, or a slice. -/
theorem open_arg1S {n : Nat} {t : TypeId} {v : Value} {d : DataW H} {p : List MemPlace} (hp : plainT P n t = true) (h : DataW.Trod enc P w base spare held t v d p) (hv : v.cells = #[v]) (hW : ∀ n ∈ d.weights P t, n ≤ reachBytes) : ∃ q, TypedS P n t [q] ∧ Rep w OKB (· < 0) (fun _ => none) false q v := by
  obtain ⟨fuel, hf⟩ := h
  rw [hv] at hf
  obtain ⟨ps, h1, h2, h3⟩ := open_anyS n fuel t _ _ hp hf hW
  have hl := h2.1
  match ps, hl with
  | [q], _ => exact ⟨q, h1, (h2.head).opened⟩
/-- An argument of a struct type. -/
theorem open_argSS {n : Nat} {t : TypeId} {cs : Array Value} {d : DataW H} {p : List MemPlace} (hp : plainT P n t = true) (h : DataW.Trod enc P w base spare held t (.agg cs) d p) (hW : ∀ n ∈ d.weights P t, n ≤ reachBytes) : ∃ ps, TypedS P n t ps ∧ Rep w OKB (· < 0) (fun _ => none) false (.agg ps) (.agg cs) := by
  obtain ⟨fuel, hf⟩ := h
  obtain ⟨ps, h1, h2, h3⟩ := open_anyS n fuel t _ _ hp hf hW
  refine ⟨ps, h1, ?_⟩
  have : Rep w OKB (· < 0) (fun _ => none) true (.agg ps) (.agg cs.toList.toArray) := .agg h2.1 h3 h2.2
  rw [Array.toArray_toList] at this
  exact this.opened
end

theorem typedS_int {P : Program} {n : Nat} {t : TypeId} {k : IntKind} {cs : List PVal} (ht : P.underlying t = some (.int k)) (h : TypedS P (n + 1) t cs) : ∃ i, cs = [.int k i] ∧ InK k i := by simpa only [TypedS, ht] using h
theorem typedS_bool {P : Program} {n : Nat} {t : TypeId} {cs : List PVal} (ht : P.underlying t = some .bool) (h : TypedS P (n + 1) t cs) : ∃ b, cs = [.bool b] := by simpa only [TypedS, ht] using h
theorem typedS_str {P : Program} {n : Nat} {t : TypeId} {cs : List PVal} (ht : P.underlying t = some .string) (h : TypedS P (n + 1) t cs) : ∃ s : ByteArray, cs = [.str s] ∧ s.size ≤ maxLen := by simpa only [TypedS, ht] using h
theorem typedS_slice {P : Program} {n : Nat} {t e : TypeId} {cs : List PVal} {sz by_ : Nat} (ht : P.underlying t = some (.slice e)) (hs : P.cellsOf e = sz) (hb : P.bytesOf e = by_) (h : TypedS P (n + 1) t cs) : ∃ es, cs = [.ro sz es] ∧ es.length * by_ ≤ reachBytes ∧ ∀ x ∈ es, TypedS P n e x := by
  subst hs hb
  simpa only [TypedS, ht] using h
theorem typedS_struct {P : Program} {n : Nat} {t : TypeId} {fs : Array Field} {cs : List PVal} (ht : P.underlying t = some (.struct fs)) (h : TypedS P (n + 1) t cs) : TypedL (TypedS P n) fs.toList cs := by simpa only [TypedS, ht] using h

end Go.Proofs.Ytbmdpedhobkeeaa.Abs
