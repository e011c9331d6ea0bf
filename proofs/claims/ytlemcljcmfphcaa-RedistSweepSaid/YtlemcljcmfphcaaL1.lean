/- Rows in order: where a prefix stands; the document's way of laying one in, or taking one out, and the program's, are one. Plain law: no program in sight. -/
import Derived.Test.YtlemcljcmfphcaaPu
import Derived.Test.YtlemcljcmfphcaaB2
set_option linter.unusedVariables false
set_option linter.unusedSimpArgs false
namespace Go.Proofs.Ytlemcljcmfphcaa.Abs
open Go

def plt (a b : TPrefix) : Prop := a.A < b.A ∨ (a.A = b.A ∧ a.N < b.N)
instance (a b : TPrefix) : Decidable (plt a b) := by unfold plt; infer_instance

theorem pfx_ext {a b : TPrefix} (h1 : a.A = b.A) (h2 : a.N = b.N) : a = b := by
  cases a; cases b; simp_all

theorem cmp_u32 (x y : Int) : F67_cmp_Compare x y = if x < y then -1 else if y < x then 1 else 0 := by
  unfold F67_cmp_Compare F71_cmp_isNaN
  by_cases h : x < y
  · simp [h]
  · by_cases h2 : y < x <;> simp [h, h2]
theorem cmp_int (x y : Int) : F68_cmp_Compare x y = if x < y then -1 else if y < x then 1 else 0 := by
  unfold F68_cmp_Compare F72_cmp_isNaN
  by_cases h : x < y
  · simp [h]
  · by_cases h2 : y < x <;> simp [h, h2]

theorem ord_eq (a b : TPrefix) : F56_redist_order a b = if a.A < b.A then -1 else if b.A < a.A then 1 else if a.N < b.N then -1 else if b.N < a.N then 1 else 0 := by
  unfold F56_redist_order
  rw [cmp_u32, cmp_int]
  by_cases h1 : a.A < b.A
  · simp [h1, F66_cmp_Or, F66_cmp_Or_l1]
  · by_cases h2 : b.A < a.A
    · simp [h1, h2, F66_cmp_Or, F66_cmp_Or_l1]
    · by_cases h3 : a.N < b.N
      · simp [h1, h2, h3, F66_cmp_Or, F66_cmp_Or_l1]
      · by_cases h4 : b.N < a.N <;> simp [h1, h2, h3, h4, F66_cmp_Or, F66_cmp_Or_l1]

theorem ord_neg (a b : TPrefix) : F56_redist_order a b < 0 ↔ plt a b := by
  rw [ord_eq]
  unfold plt
  (repeat' split) <;> constructor <;> intro h <;> omega
theorem ord_zero (a b : TPrefix) : F56_redist_order a b = 0 ↔ a = b := by
  rw [ord_eq]
  constructor
  · intro h
    have h1 : a.A = b.A := by (repeat' split at h) <;> omega
    have h2 : a.N = b.N := by (repeat' split at h) <;> omega
    exact pfx_ext h1 h2
  · rintro rfl
    simp

theorem less_eq (p q : TPrefix) : F39_crossroadsref03_Less p q = decide (plt p q) := by
  unfold F39_crossroadsref03_Less plt
  by_cases h1 : p.A < q.A <;> by_cases h2 : p.A = q.A <;> by_cases h3 : p.N < q.N <;> simp [h1, h2, h3]

theorem peq_eq (x p : TPrefix) : (decide (x.A = p.A) && (decide (x.N = p.N) && true)) = decide (x = p) := by
  rw [Bool.eq_iff_iff]
  simp only [Bool.and_true, Bool.and_eq_true, decide_eq_true_eq]
  exact ⟨fun h => pfx_ext h.1 h.2, fun h => by subst h; exact ⟨rfl, rfl⟩⟩

theorem plt_irrefl (a : TPrefix) : ¬ plt a a := by unfold plt; omega
theorem plt_trans {a b c : TPrefix} (h1 : plt a b) (h2 : plt b c) : plt a c := by unfold plt at *; omega
theorem plt_tri (a b : TPrefix) : plt a b ∨ a = b ∨ plt b a := by
  by_cases h1 : plt a b
  · exact .inl h1
  · by_cases h2 : plt b a
    · exact .inr (.inr h2)
    · refine .inr (.inl (pfx_ext ?_ ?_)) <;> unfold plt at h1 h2 <;> omega

/-! ### Binary search -/
theorem bs55_l1 (x0 : List TPrefix) (t : TPrefix) (c : TPrefix → TPrefix → Int) : ∀ (f : Nat) (i j : Int), F55_slices_BinarySearchFunc_l1 x0 t c f i j = bsG x0 t c f i j
  | 0, i, j => rfl
  | f + 1, i, j => by
    unfold F55_slices_BinarySearchFunc_l1 bsG
    simp only [bs55_l1 x0 t c f]
    rfl
theorem bs55 (x0 : List TPrefix) (t : TPrefix) (c : TPrefix → TPrefix → Int) : F55_slices_BinarySearchFunc x0 t c = bsF x0 t c := by
  unfold F55_slices_BinarySearchFunc bsF
  rw [bs55_l1]
theorem bs61_l1 (x0 : List TExt) (t : TPrefix) (c : TExt → TPrefix → Int) : ∀ (f : Nat) (i j : Int), F61_slices_BinarySearchFunc_l1 x0 t c f i j = bsG x0 t c f i j
  | 0, i, j => rfl
  | f + 1, i, j => by
    unfold F61_slices_BinarySearchFunc_l1 bsG
    simp only [bs61_l1 x0 t c f]
    rfl
theorem bs61 (x0 : List TExt) (t : TPrefix) (c : TExt → TPrefix → Int) : F61_slices_BinarySearchFunc x0 t c = bsF x0 t c := by
  unfold F61_slices_BinarySearchFunc bsF
  rw [bs61_l1]

/-! ### Rows in order -/
section
variable {α : Type} {f : α → TPrefix} {L : List α} {p : TPrefix} {k : Nat}

def Srt (f : α → TPrefix) (L : List α) : Prop := L.Pairwise fun x y => plt (f x) (f y)

/-- p stands, or would, at k. -/
structure At (f : α → TPrefix) (L : List α) (p : TPrefix) (k : Nat) : Prop where
  le : k ≤ L.length
  lo : ∀ x ∈ L.take k, plt (f x) p
  hi : ∀ x ∈ L.drop k, ¬ plt (f x) p

theorem srt_get [Inhabited α] (h : Srt f L) {a b : Nat} (hab : a < b) (hb : b < L.length) : plt (f (L.getD a default)) (f (L.getD b default)) := by
  have := List.pairwise_iff_getElem.1 h a b (by omega) hb hab
  simpa [List.getD_eq_getElem?_getD, List.getElem?_eq_getElem (show a < L.length by omega), List.getElem?_eq_getElem hb] using this

theorem bs_at [Inhabited α] (h : Srt f L) (hn : L.length ≤ 9223372036854775807) : ∃ k : Nat, bsF L p (fun x q => F56_redist_order (f x) q) = ((k : Int), decide (k < L.length ∧ f (L.getD k default) = p)) ∧ At f L p k := by
  obtain ⟨k, k1, k2, k3⟩ := bsF_spec (t := p) (cmp := fun x q => F56_redist_order (f x) q) hn
  have hm := k3 (fun a b hab hb hlt => by
    rw [ord_neg] at hlt ⊢
    rcases Nat.lt_or_eq_of_le hab with h1 | rfl
    · exact plt_trans (srt_get h h1 hb) hlt
    · exact hlt)
  simp only [ord_neg, ord_zero] at k1 hm
  refine ⟨k, k1, k2, fun x hx => ?_, fun x hx => ?_⟩
  · obtain ⟨i, hi, rfl⟩ := List.getElem_of_mem hx
    have hi' : i < k ∧ i < L.length := by simp at hi; omega
    have := hm.1 i hi'.1
    rw [List.getElem_take]
    simpa [List.getD_eq_getElem?_getD, List.getElem?_eq_getElem hi'.2] using this
  · obtain ⟨i, hi, rfl⟩ := List.getElem_of_mem hx
    have hi' : k + i < L.length := by simp at hi; omega
    have := hm.2 (k + i) (by omega) hi'
    rw [List.getElem_drop]
    simpa [List.getD_eq_getElem?_getD, List.getElem?_eq_getElem hi'] using this

theorem drop_getD [Inhabited α] {k : Nat} (h : k < L.length) : L.drop k = L.getD k default :: L.drop (k + 1) := by
  rw [List.drop_eq_getElem_cons h, List.getD_eq_getElem?_getD, List.getElem?_eq_getElem h]
  rfl

theorem At.rest [Inhabited α] (h : At f L p k) (hs : Srt f L) (hk : k < L.length) (he : f (L.getD k default) = p) : ∀ x ∈ L.drop (k + 1), plt p (f x) := by
  intro x hx
  have hp : (L.drop k).Pairwise fun x y => plt (f x) (f y) := hs.sublist (List.drop_sublist k L)
  rw [drop_getD hk] at hp
  have := (List.pairwise_cons.1 hp).1 x hx
  rwa [he] at this

theorem At.found [Inhabited α] (h : At f L p k) (hs : Srt f L) : (k < L.length ∧ f (L.getD k default) = p) ↔ ∃ x ∈ L, f x = p := by
  constructor
  · rintro ⟨h1, h2⟩
    refine ⟨L.getD k default, ?_, h2⟩
    rw [List.getD_eq_getElem?_getD, List.getElem?_eq_getElem h1]
    exact List.getElem_mem h1
  · rintro ⟨x, hx, he⟩
    rw [← List.take_append_drop k L, List.mem_append] at hx
    rcases hx with hx | hx
    · have := h.lo x hx
      rw [he] at this
      exact absurd this (plt_irrefl p)
    · have hk : k < L.length := by
        have : (L.drop k).length ≠ 0 := by
          intro h0
          rw [List.length_eq_zero_iff.1 h0] at hx
          cases hx
        simp at this
        omega
      refine ⟨hk, ?_⟩
      have hp : (L.drop k).Pairwise fun x y => plt (f x) (f y) := hs.sublist (List.drop_sublist k L)
      rw [drop_getD hk] at hp hx
      rcases List.mem_cons.1 hx with rfl | hx
      · exact he
      · have h1 := (List.pairwise_cons.1 hp).1 x hx
        rw [he] at h1
        exact absurd h1 (h.hi _ (by rw [drop_getD hk]; exact List.mem_cons_self))

theorem At.gt (h : At f L p k) (hs : Srt f L) (hn : ¬ ∃ x ∈ L, f x = p) : ∀ x ∈ L.drop k, plt p (f x) := by
  intro x hx
  rcases plt_tri (f x) p with h1 | h1 | h1
  · exact absurd h1 (h.hi x hx)
  · exact absurd ⟨x, List.mem_of_mem_drop hx, h1⟩ hn
  · exact h1

/-- The one that is there. -/
theorem At.only [Inhabited α] (h : At f L p k) (hs : Srt f L) {x : α} (hx : x ∈ L) (he : f x = p) : k < L.length ∧ L.getD k default = x := by
  obtain ⟨hk, hp⟩ := (h.found hs).2 ⟨x, hx, he⟩
  refine ⟨hk, ?_⟩
  rw [← List.take_append_drop k L, List.mem_append] at hx
  rcases hx with hx | hx
  · have := h.lo x hx
    rw [he] at this
    exact absurd this (plt_irrefl p)
  · have hr := h.rest hs hk hp
    rw [drop_getD hk] at hx
    rcases List.mem_cons.1 hx with rfl | hx
    · rfl
    · have := hr x hx
      rw [he] at this
      exact absurd this (plt_irrefl p)

/-- Taken out. -/
theorem At.del [Inhabited α] (h : At f L p k) (hs : Srt f L) (hk : k < L.length) (hp : f (L.getD k default) = p) : L.take k ++ L.drop (k + 1) = L.filter fun x => !decide (f x = p) := by
  conv => rhs; rw [← List.take_append_drop k L, drop_getD hk]
  rw [List.filter_append, List.filter_cons]
  simp only [hp, decide_true, Bool.not_true, Bool.false_eq_true, if_false]
  rw [List.filter_eq_self.2, List.filter_eq_self.2]
  · intro x hx
    have := h.rest hs hk hp x hx
    simp only [Bool.not_eq_true', decide_eq_false_iff_not]
    intro e
    rw [e] at this
    exact plt_irrefl p this
  · intro x hx
    have := h.lo x hx
    simp only [Bool.not_eq_true', decide_eq_false_iff_not]
    intro e
    rw [e] at this
    exact plt_irrefl p this

theorem filter_none (hn : ¬ ∃ x ∈ L, f x = p) : (L.filter fun x => !decide (f x = p)) = L := by
  rw [List.filter_eq_self]
  intro x hx
  simp only [Bool.not_eq_true', decide_eq_false_iff_not]
  exact fun e => hn ⟨x, hx, e⟩

theorem srt_mid {A B : List α} {y : α} (hA : Srt f A) (hB : Srt f B) (h1 : ∀ x ∈ A, plt (f x) (f y)) (h2 : ∀ x ∈ B, plt (f y) (f x)) : Srt f (A ++ [y] ++ B) := by
  unfold Srt
  rw [List.append_assoc, List.pairwise_append]
  refine ⟨hA, ?_, ?_⟩
  · rw [List.singleton_append, List.pairwise_cons]
    exact ⟨h2, hB⟩
  · intro a ha b hb
    rcases List.mem_append.1 hb with hb | hb
    · rw [List.mem_singleton.1 hb]; exact h1 a ha
    · exact plt_trans (h1 a ha) (h2 b hb)

theorem srt_take (h : Srt f L) (k : Nat) : Srt f (L.take k) := h.sublist (List.take_sublist k L)
theorem srt_drop (h : Srt f L) (k : Nat) : Srt f (L.drop k) := h.sublist (List.drop_sublist k L)

theorem At.ins (h : At f L p k) (hs : Srt f L) (hn : ¬ ∃ x ∈ L, f x = p) {y : α} (hy : f y = p) : Srt f (L.take k ++ [y] ++ L.drop k) :=
  srt_mid (srt_take hs k) (srt_drop hs k) (fun x hx => hy ▸ h.lo x hx) (fun x hx => hy ▸ h.gt hs hn x hx)

theorem set_eq {k : Nat} (hk : k < L.length) (y : α) : L.set k y = L.take k ++ [y] ++ L.drop (k + 1) := by
  rw [List.set_eq_take_append_cons_drop, if_pos hk]
  simp

theorem At.set [Inhabited α] (h : At f L p k) (hs : Srt f L) (hk : k < L.length) (hp : f (L.getD k default) = p) {y : α} (hy : f y = p) : Srt f (L.set k y) := by
  rw [set_eq hk]
  exact srt_mid (srt_take hs k) (srt_drop hs _) (fun x hx => hy ▸ h.lo x hx) (fun x hx => hy ▸ h.rest hs hk hp x hx)
end

/-! ### The document's ways -/
theorem owns_l1 (p : TPrefix) : ∀ l : List TPrefix, F38_crossroadsref28_owns_l1 p l = if p ∈ l then .error true else .ok ()
  | [] => by simp [F38_crossroadsref28_owns_l1]
  | x :: l => by
    unfold F38_crossroadsref28_owns_l1
    rw [peq_eq]
    by_cases h : x = p
    · simp [h]
    · simp only [h, decide_false, cond_false, owns_l1 p l, List.mem_cons]
      simp [Ne.symm h]
theorem owns_eq (d : TDomain) (p : TPrefix) : F38_crossroadsref28_owns d p = decide (p ∈ d.In) := by
  unfold F38_crossroadsref28_owns
  rw [owns_l1]
  by_cases h : p ∈ d.In <;> simp [h]

theorem without_l1 (p : TPrefix) : ∀ (l out : List TExt), F40_crossroadsref28_without_l1 p out l = out ++ l.filter fun x => !decide (x.P = p)
  | [], out => by simp [F40_crossroadsref28_without_l1]
  | x :: l, out => by
    unfold F40_crossroadsref28_without_l1
    rw [peq_eq, without_l1 p l, without_l1 p l]
    by_cases h : x.P = p <;> simp [h]
theorem without_eq (l : List TExt) (p : TPrefix) : F40_crossroadsref28_without l p = l.filter fun x => !decide (x.P = p) := by
  unfold F40_crossroadsref28_without
  rw [without_l1, List.nil_append]

theorem has_l1 (p : TPrefix) : ∀ (l : List TExt), F22_crossroadsref28_Has_l1 p l = match l.find? (fun x => decide (x.P = p)) with | some x => .error (x, true) | none => .ok ()
  | [] => by simp [F22_crossroadsref28_Has_l1]
  | x :: l => by
    unfold F22_crossroadsref28_Has_l1
    rw [peq_eq]
    by_cases h : x.P = p
    · simp [h]
    · simp [h, has_l1 p l]

theorem own_l1_true (p : TPrefix) : ∀ (l out : List TPrefix), F16_crossroadsref28_Own_l1 p true out l = (true, out ++ l)
  | [], out => by simp [F16_crossroadsref28_Own_l1]
  | x :: l, out => by
    unfold F16_crossroadsref28_Own_l1
    simp [own_l1_true p l]
theorem own_l1 (p : TPrefix) (B : List TPrefix) (hB : ∀ x ∈ B, plt p x) : ∀ (A out : List TPrefix), (∀ x ∈ A, ¬ plt p x) → F16_crossroadsref28_Own_l1 p false out (A ++ B) = if B = [] then (false, out ++ A) else (true, out ++ A ++ [p] ++ B)
  | [], out, _ => by
    cases B with
    | nil => simp [F16_crossroadsref28_Own_l1]
    | cons b B =>
      have hb : plt p b := hB b List.mem_cons_self
      simp only [List.nil_append]
      unfold F16_crossroadsref28_Own_l1
      simp [less_eq, hb, own_l1_true]
  | a :: A, out, h => by
    have ha : ¬ plt p a := h a List.mem_cons_self
    simp only [List.cons_append]
    unfold F16_crossroadsref28_Own_l1
    simp only [cond_false, less_eq, ha, decide_false, own_l1 p B hB A _ fun x hx => h x (List.mem_cons_of_mem _ hx)]
    simp
theorem into_l1_true (y : TExt) : ∀ (l out : List TExt), F46_crossroadsref28_into_l1 y true out l = (true, out ++ l)
  | [], out => by simp [F46_crossroadsref28_into_l1]
  | x :: l, out => by
    unfold F46_crossroadsref28_into_l1
    simp [into_l1_true y l]
theorem into_l1 (y : TExt) (B : List TExt) (hB : ∀ x ∈ B, plt y.P x.P) : ∀ (A out : List TExt), (∀ x ∈ A, ¬ plt y.P x.P) → F46_crossroadsref28_into_l1 y false out (A ++ B) = if B = [] then (false, out ++ A) else (true, out ++ A ++ [y] ++ B)
  | [], out, _ => by
    cases B with
    | nil => simp [F46_crossroadsref28_into_l1]
    | cons b B =>
      have hb : plt y.P b.P := hB b List.mem_cons_self
      simp only [List.nil_append]
      unfold F46_crossroadsref28_into_l1
      simp [less_eq, hb, into_l1_true]
  | a :: A, out, h => by
    have ha : ¬ plt y.P a.P := h a List.mem_cons_self
    simp only [List.cons_append]
    unfold F46_crossroadsref28_into_l1
    simp only [cond_false, less_eq, ha, decide_false, into_l1 y B hB A _ fun x hx => h x (List.mem_cons_of_mem _ hx)]
    simp

theorem asymm_plt {a b : TPrefix} (h : plt a b) : ¬ plt b a := fun h2 => plt_irrefl a (plt_trans h h2)

/-- Laid in: A ++ [y] ++ B. -/
theorem into_eq {y : TExt} {l A B : List TExt} (hl : (l.filter fun x => !decide (x.P = y.P)) = A ++ B) (hA : ∀ x ∈ A, plt x.P y.P) (hB : ∀ x ∈ B, plt y.P x.P) : F46_crossroadsref28_into l y = A ++ [y] ++ B := by
  unfold F46_crossroadsref28_into
  simp only [without_eq, hl, into_l1 y B hB A [] fun x hx => asymm_plt (hA x hx)]
  by_cases h : B = []
  · simp [h]
  · simp [h]
end Go.Proofs.Ytlemcljcmfphcaa.Abs
