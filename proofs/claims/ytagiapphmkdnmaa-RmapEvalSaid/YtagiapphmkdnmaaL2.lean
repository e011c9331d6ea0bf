/- Rules, clauses and maps: the program's words and the document's are one; the statements' functions answer true. Plain law: no program in sight. -/
import Derived.Test.YtagiapphmkdnmaaL1
import Derived.Test.YtagiapphmkdnmaaSz
set_option linter.unusedVariables false
set_option linter.unusedSimpArgs false
namespace Go.Proofs.Ytagiapphmkdnmaa.Abs
open Go

theorem find_congr {α : Type} {h k : α → Bool} : ∀ {l : List α}, (∀ x ∈ l, h x = k x) → l.find? h = l.find? k
  | [], _ => rfl
  | x :: l, hh => by
    simp only [List.find?]
    rw [hh x List.mem_cons_self, find_congr fun y hy => hh y (List.mem_cons_of_mem _ hy)]
theorem all_congr {α : Type} {h k : α → Bool} : ∀ {l : List α}, (∀ x ∈ l, h x = k x) → l.all h = l.all k
  | [], _ => rfl
  | x :: l, hh => by
    simp only [List.all_cons]
    rw [hh x List.mem_cons_self, all_congr fun y hy => hh y (List.mem_cons_of_mem _ hy)]

theorem ruleMay_same {x : TRule} (h : x.ok) : F42_plist_May x = F46_crossroadsref07_May x := by
  unfold F42_plist_May F46_crossroadsref07_May
  rw [may_same h.2.1.1]
  by_cases h1 : x.Seq < 1
  · simp only [h1, decide_true, cond_true]
  · by_cases h2 : 65535 < x.Seq
    · simp only [h1, h2, decide_true, decide_false, cond_true, cond_false]
    · simp only [h1, h2, decide_false, cond_false]
      cases F53_crossroadsref03_May x.P with
      | false => rfl
      | true =>
        simp only [Bool.true_and]
        rw [Bool.eq_iff_iff]
        by_cases h3 : x.Ge = 0
        · simp only [h3, decide_true, cond_true, max_]
          simp only [Bool.or_eq_true, Bool.and_eq_true, decide_eq_true_eq]
          split <;> omega
        · by_cases h4 : x.Ge ≤ x.P.N
          · have : ¬ x.P.N < x.Ge := by omega
            simp [h3, h4, this]
          · have h5 : x.P.N < x.Ge := by omega
            by_cases h6 : 32 < x.Ge
            · have : ¬ x.Ge ≤ 32 := by omega
              simp [h3, h4, h5, h6, this]
            · have h7 : x.Ge ≤ 32 := by omega
              by_cases h8 : x.Le = 0
              · simp [h3, h4, h5, h6, h7, h8]
              · have h9 : ¬ x.Ge < x.P.N := by omega
                simp only [h3, h4, h5, h6, h7, h8, h9, decide_true, decide_false, cond_false, Bool.true_and, Bool.false_or, max_, if_false]
                simp only [Bool.and_eq_true, decide_eq_true_eq]
                constructor
                · rintro ⟨g1, g2⟩; exact ⟨g1, by omega, g2⟩
                · rintro ⟨g1, g2, g3⟩; exact ⟨g1, g3⟩

theorem means_same {x : TRule} {q : TPrefix} (h : x.ok) (hq : InK .u32 q.A) : F49_plist_Means x q = F51_crossroadsref07_Means x q := by
  unfold F49_plist_Means F51_crossroadsref07_Means
  rw [ruleMay_same h, covers_same h.2.1.1 hq]
  rfl

/-! ### Lists of rules -/
theorem has47 (h : TRule → Bool) (l : List TRule) : F43_slices_ContainsFunc l h = l.any h := by
  unfold F43_slices_ContainsFunc
  rw [Bool.eq_iff_iff]
  rcases F47_slices_IndexFunc_find (h := h) l with ⟨h1, h2⟩ | ⟨j, x, h1, h2, h3⟩
  · rw [h1]
    have : ¬ l.any h = true := by
      rw [List.any_eq_true]
      rintro ⟨x, hx, hh⟩
      exact (List.find?_eq_none.1 h2) x hx hh
    simp only [this, iff_false]
    decide
  · rw [h1]
    have : l.any h = true := List.any_eq_true.2 ⟨x, List.mem_of_getElem? h2, List.find?_some h3⟩
    simp [this]
theorem has28 (h : TClause → Bool) (l : List TClause) : F31_slices_ContainsFunc l h = l.any h := by
  unfold F31_slices_ContainsFunc
  rw [Bool.eq_iff_iff]
  rcases F28_slices_IndexFunc_find (h := h) l with ⟨h1, h2⟩ | ⟨j, x, h1, h2, h3⟩
  · rw [h1]
    have : ¬ l.any h = true := by
      rw [List.any_eq_true]
      rintro ⟨x, hx, hh⟩
      exact (List.find?_eq_none.1 h2) x hx hh
    simp only [this, iff_false]
    decide
  · rw [h1]
    have : l.any h = true := List.any_eq_true.2 ⟨x, List.mem_of_getElem? h2, List.find?_some h3⟩
    simp [this]

theorem rises_rules (l0 : List TRule) : ∀ (l : List TRule) (i : Nat), (F44_rmap_rises_l1 l0 (fun y => y.Seq) i l = .ok () ∨ F44_rmap_rises_l1 l0 (fun y => y.Seq) i l = .error false) ∧
    F36_crossroadsref07_MayAll_l1 l0 i l = bif l.all F46_crossroadsref07_May then F44_rmap_rises_l1 l0 (fun y => y.Seq) i l else .error false
  | [], i => ⟨.inl rfl, rfl⟩
  | x :: l, i => by
    obtain ⟨h1, h2⟩ := rises_rules l0 l (i + 1)
    unfold F36_crossroadsref07_MayAll_l1 F44_rmap_rises_l1
    simp only [List.all_cons]
    cases hm : F46_crossroadsref07_May x <;> by_cases hi : (0 : Int) < (i : Int) <;> by_cases hs : x.Seq ≤ (l0.getD (i - 1) default).Seq <;> simp only [hi, hs, decide_true, decide_false, cond_true, cond_false, Bool.true_and, Bool.false_and] <;> refine ⟨?_, ?_⟩ <;> first | exact h1 | exact h2 | (cases l.all F46_crossroadsref07_May <;> simp) | simp

theorem mayRules_same {l : List TRule} (h : ∀ y ∈ l, y.ok) : F35_rmap_isList l = F36_crossroadsref07_MayAll l := by
  unfold F35_rmap_isList F36_crossroadsref07_MayAll
  rw [has47]
  obtain ⟨h1, h2⟩ := rises_rules l l 0
  rw [h2]
  have ha : l.any (fun y => F41_rmap_isList_1 y) = !l.all F46_crossroadsref07_May := by
    have : l.any (fun y => F41_rmap_isList_1 y) = l.any (fun y => !F46_crossroadsref07_May y) := by
      rw [Bool.eq_iff_iff, List.any_eq_true, List.any_eq_true]
      constructor <;> rintro ⟨x, hx, hh⟩ <;> refine ⟨x, hx, ?_⟩ <;> simpa only [F41_rmap_isList_1, ruleMay_same (h x hx)] using hh
    rw [this, List.not_all_eq_any_not]
  rw [ha]
  unfold F44_rmap_rises
  have e : (fun y0 => F45_rmap_isList_2 y0) = fun y : TRule => y.Seq := rfl
  rw [e]
  cases l.all F46_crossroadsref07_May <;> rfl

theorem evalRules_ref (q : TPrefix) : ∀ l : List TRule, F40_crossroadsref07_Eval_l1 q l = match l.find? (fun y => F51_crossroadsref07_Means y q) with | some x => .error (x.Permit, x.Seq) | none => .ok ()
  | [] => rfl
  | x :: l => by
    unfold F40_crossroadsref07_Eval_l1
    simp only [List.find?]
    cases F51_crossroadsref07_Means x q with
    | true => rfl
    | false => exact evalRules_ref q l

theorem evalRules_same {l : List TRule} {q : TPrefix} (h : ∀ y ∈ l, y.ok) (hq : InK .u32 q.A) : F38_plist_Eval l q = F40_crossroadsref07_Eval l q := by
  unfold F38_plist_Eval F40_crossroadsref07_Eval
  rw [evalRules_ref, ← find_congr (h := fun y => F48_plist_Eval_1 y q) fun x hx => means_same (h x hx) hq]
  rcases F47_slices_IndexFunc_find (h := fun y => F48_plist_Eval_1 y q) l with ⟨h1, h2⟩ | ⟨j, x, h1, h2, h3⟩
  · rw [h1, h2]; rfl
  · rw [h1, h3]
    have : ¬ ((j : Int) < 0) := by omega
    have hj : l.getD (j : Int).toNat default = x := by rw [Int.toNat_natCast, List.getD_eq_getElem?_getD, h2]; rfl
    simp only [this, decide_false, cond_false, hj]

/-! ### Clauses -/
theorem plain_id (x : TClause) : F17_crossroadslaw08_plain x = x := by
  have : ∀ (l out : List TRule), F17_crossroadslaw08_plain_l1 out l = out ++ l := by
    intro l
    induction l with
    | nil => intro out; simp [F17_crossroadslaw08_plain_l1]
    | cons y l ih => intro out; unfold F17_crossroadslaw08_plain_l1; simp [ih, F37_crossroadslaw08_rule]
  unfold F17_crossroadslaw08_plain
  rw [this]
  rfl
theorem rows_id (m : List TClause) : F9_crossroadslaw08_rows m = m := by
  have : ∀ (l out : List TClause), F9_crossroadslaw08_rows_l1 out l = out ++ l := by
    intro l
    induction l with
    | nil => intro out; simp [F9_crossroadslaw08_rows_l1]
    | cons y l ih => intro out; unfold F9_crossroadslaw08_rows_l1; simp [ih, plain_id]
  unfold F9_crossroadslaw08_rows
  rw [this]
  rfl
theorem route_id (t : TRoute) : F11_crossroadslaw08_route t = t := rfl

theorem clauseMay_same {x : TClause} (h : x.ok) : F15_rmap_May x = F16_crossroadsref08_May x := by
  unfold F15_rmap_May F16_crossroadsref08_May
  rw [mayRules_same h.2.1]
  have e : F34_rmap_isIn = F27_crossroadsref08_in := rfl
  rw [e]
  cases F27_crossroadsref08_in x.MKind (-1) 9 <;> cases F27_crossroadsref08_in x.MLow 0 x.MHigh <;> cases F27_crossroadsref08_in x.SCost (-1) 16777215 <;> cases F27_crossroadsref08_in x.SPlus 0 16777215 <;> cases F27_crossroadsref08_in x.SKind (-1) 9 <;>
    cases F27_crossroadsref08_in x.Seq 1 65535 <;> cases F36_crossroadsref07_MayAll x.Listf <;> simp

theorem tags_l2 (t : TRoute) : ∀ (l : List Int) (b : Bool), F19_crossroadsref08_Matches_l2 t b l = (b || l.any fun y => decide (y = t.Tag))
  | [], b => by simp [F19_crossroadsref08_Matches_l2]
  | x :: l, b => by
    unfold F19_crossroadsref08_Matches_l2
    cases b with
    | true => simp [tags_l2 t l]
    | false => simp [tags_l2 t l]
theorem tags_l1 (t : TRoute) : ∀ (l : List Int) (b : Bool), F19_crossroadsref08_Matches_l1 t b l = (b || l.any fun y => decide (y = t.Tag))
  | [], b => by simp [F19_crossroadsref08_Matches_l1]
  | x :: l, b => by
    unfold F19_crossroadsref08_Matches_l1
    cases b with
    | true => simp [tags_l1 t l]
    | false => simp [tags_l1 t l]
theorem hasTag (l : List Int) (v : Int) : F39_slices_Contains l v = l.any fun y => decide (y = v) := by
  unfold F39_slices_Contains
  rw [Bool.eq_iff_iff]
  rcases F50_slices_Index_find (h := v) l with ⟨h1, h2⟩ | ⟨j, x, h1, h2, h3⟩
  · rw [h1]
    have : ¬ (l.any fun y => decide (y = v)) = true := by
      rw [List.any_eq_true]
      rintro ⟨x, hx, hh⟩
      have := (List.find?_eq_none.1 h2) x hx
      simp at this hh
      exact this hh.symm
    simp only [this, iff_false]
    simp
  · rw [h1]
    have hs := List.find?_some h3
    have : (l.any fun y => decide (y = v)) = true := List.any_eq_true.2 ⟨x, List.mem_of_getElem? h2, by simp at hs ⊢; exact hs.symm⟩
    simp [this]

theorem matches_same {x : TClause} {t : TRoute} (h : x.ok) (ht : InK .u32 t.P.A) : F18_rmap_Matches x t = F19_crossroadsref08_Matches x t := by
  unfold F18_rmap_Matches F19_crossroadsref08_Matches
  rw [evalRules_same h.2.1 ht, hasTag, tags_l1, tags_l2]
  have e : F34_rmap_isIn = F27_crossroadsref08_in := rfl
  rw [e]
  generalize F40_crossroadsref07_Eval x.Listf t.P = ev
  obtain ⟨a, b⟩ := ev
  generalize hk : decide (x.MTags.length = 0) = z
  generalize F27_crossroadsref08_in t.Cost x.MLow x.MHigh = c
  generalize (x.MTags.any fun y => decide (y = t.Tag)) = u
  have hz : decide ((x.MTags.length : Int) = 0) = z := by rw [← hk]; simp
  rw [hz]
  generalize decide (x.MKind = t.Kind) = w
  cases decide (0 < (x.Listf.length : Int)) <;> cases decide (x.MKind = -1) <;> cases z <;> cases c <;> cases u <;> cases w <;> cases a <;> rfl

theorem change_same (x : TClause) (t : TRoute) : F20_rmap_Change x t = F21_crossroadsref08_Change x t := rfl

theorem rises_clauses (l0 : List TClause) : ∀ (l : List TClause) (i : Nat), (F32_rmap_rises_l1 l0 (fun y => y.Seq) i l = .ok () ∨ F32_rmap_rises_l1 l0 (fun y => y.Seq) i l = .error false) ∧
    F8_crossroadsref08_MayAll_l1 l0 i l = bif l.all F16_crossroadsref08_May then F32_rmap_rises_l1 l0 (fun y => y.Seq) i l else .error false
  | [], i => ⟨.inl rfl, rfl⟩
  | x :: l, i => by
    obtain ⟨h1, h2⟩ := rises_clauses l0 l (i + 1)
    unfold F8_crossroadsref08_MayAll_l1 F32_rmap_rises_l1
    simp only [List.all_cons]
    cases hm : F16_crossroadsref08_May x <;> by_cases hi : (0 : Int) < (i : Int) <;> by_cases hs : x.Seq ≤ (l0.getD (i - 1) default).Seq <;> simp only [hi, hs, decide_true, decide_false, cond_true, cond_false, Bool.true_and, Bool.false_and] <;> refine ⟨?_, ?_⟩ <;> first | exact h1 | exact h2 | (cases l.all F16_crossroadsref08_May <;> simp) | simp

theorem mayAll_same {l : List TClause} (h : ∀ y ∈ l, y.ok) : F14_rmap_MayAll l = F8_crossroadsref08_MayAll l := by
  unfold F14_rmap_MayAll F8_crossroadsref08_MayAll
  rw [has28]
  obtain ⟨h1, h2⟩ := rises_clauses l l 0
  rw [h2]
  have ha : l.any (fun y => F30_rmap_MayAll_1 y) = !l.all F16_crossroadsref08_May := by
    have : l.any (fun y => F30_rmap_MayAll_1 y) = l.any (fun y => !F16_crossroadsref08_May y) := by
      rw [Bool.eq_iff_iff, List.any_eq_true, List.any_eq_true]
      constructor <;> rintro ⟨x, hx, hh⟩ <;> refine ⟨x, hx, ?_⟩ <;> simpa only [F30_rmap_MayAll_1, clauseMay_same (h x hx)] using hh
    rw [this, List.not_all_eq_any_not]
  rw [ha]
  unfold F32_rmap_rises
  have e : (fun y0 => F33_rmap_MayAll_2 y0) = fun y : TClause => y.Seq := rfl
  rw [e]
  cases l.all F16_crossroadsref08_May <;> rfl

theorem eval_ref (t : TRoute) : ∀ l : List TClause, F22_crossroadsref08_Eval_l1 t l = match l.find? (fun y => F19_crossroadsref08_Matches y t) with
    | some x => .error (bif x.Permit then (F21_crossroadsref08_Change x t, true, x.Seq) else ((⟨⟨0, 0⟩, 0, 0, 0⟩ : TRoute), false, x.Seq))
    | none => .ok ()
  | [] => rfl
  | x :: l => by
    unfold F22_crossroadsref08_Eval_l1
    simp only [List.find?]
    cases F19_crossroadsref08_Matches x t with
    | true => dsimp only [cond_true]; cases x.Permit <;> rfl
    | false => exact eval_ref t l

/-- What a map makes of a route. -/
theorem eval_find {l : List TClause} {t : TRoute} : F13_rmap_Eval l t = match l.find? (fun y => F18_rmap_Matches y t) with
    | some x => (bif x.Permit then (F20_rmap_Change x t, true, x.Seq) else ((⟨⟨0, 0⟩, 0, 0, 0⟩ : TRoute), false, x.Seq))
    | none => ((⟨⟨0, 0⟩, 0, 0, 0⟩ : TRoute), false, 0) := by
  unfold F13_rmap_Eval
  rcases F28_slices_IndexFunc_find (h := fun y => F29_rmap_Eval_1 y t) l with ⟨h1, h2⟩ | ⟨j, x, h1, h2, h3⟩
  · have h2' : l.find? (fun y => F18_rmap_Matches y t) = none := h2
    rw [h1, h2']; rfl
  · have h3' : l.find? (fun y => F18_rmap_Matches y t) = some x := h3
    rw [h1, h3']
    have : ¬ ((j : Int) < 0) := by omega
    have hj : l.getD (j : Int).toNat default = x := by rw [Int.toNat_natCast, List.getD_eq_getElem?_getD, h2]; rfl
    simp only [this, decide_false, cond_false, hj]

theorem eval_same {l : List TClause} {t : TRoute} (h : ∀ y ∈ l, y.ok) (ht : InK .u32 t.P.A) : F13_rmap_Eval l t = F22_crossroadsref08_Eval l t := by
  rw [eval_find]
  unfold F22_crossroadsref08_Eval
  rw [eval_ref, find_congr (h := fun y => F18_rmap_Matches y t) fun x hx => matches_same (h x hx) ht]
  cases l.find? (fun y => F19_crossroadsref08_Matches y t) with
  | none => rfl
  | some x => simp only [change_same]

theorem alive_true : F12_crossroadslaw08_alive = true := by decide +kernel

theorem clause_l1 {t : TRoute} (ht : InK .u32 t.P.A) : ∀ {m : List TClause}, (∀ y ∈ m, y.ok) → F4_crossroadslaw08_RmapClause_l1 t m = .ok ()
  | [], _ => rfl
  | x :: m, h => by
    unfold F4_crossroadslaw08_RmapClause_l1
    simp only [plain_id, route_id, clauseMay_same (h x List.mem_cons_self), matches_same (h x List.mem_cons_self) ht, change_same, clause_l1 ht fun y hy => h y (List.mem_cons_of_mem _ hy)]
    simp

theorem rmapClause_true (m : List TClause) (t : TRoute) (hm : ∀ y ∈ m, y.ok) (ht : t.ok) : F4_crossroadslaw08_RmapClause m t = true := by
  unfold F4_crossroadslaw08_RmapClause
  simp only [rows_id, mayAll_same hm, clause_l1 ht.1.1 hm, alive_true]
  cases F7_crossroadslaw08_small m <;> simp

theorem change_P (x : TClause) (t : TRoute) : (F20_rmap_Change x t).P = t.P := by
  unfold F20_rmap_Change
  cases decide (x.SCost = -1) <;> cases decide (x.SKind = -1) <;> cases x.SetTag <;> rfl
/-- What passes has the prefix that it had. -/
theorem eval_P {l : List TClause} {t : TRoute} (h : (F13_rmap_Eval l t).2.1 = true) : (F13_rmap_Eval l t).1.P = t.P := by
  rw [eval_find] at h ⊢
  cases hf : l.find? (fun y => F18_rmap_Matches y t) with
  | none => rw [hf] at h; cases h
  | some x =>
    rw [hf] at h
    cases hp : x.Permit with
    | true => simp only [hp, cond_true]; exact change_P x t
    | false => simp only [hp, cond_false] at h; cases h

theorem then_same {m n : List TClause} {t : TRoute} (hm : ∀ y ∈ m, y.ok) (hn : ∀ y ∈ n, y.ok) (ht : InK .u32 t.P.A) : F23_rmap_Then m n t = F24_crossroadsref08_Then m n t := by
  unfold F23_rmap_Then F24_crossroadsref08_Then
  rw [← eval_same hm ht]
  have hP := eval_P (l := m) (t := t)
  generalize F13_rmap_Eval m t = e at hP
  obtain ⟨a, b, c⟩ := e
  cases b with
  | false => rfl
  | true =>
    have ha : InK .u32 a.P.A := by have := hP rfl; simp only at this; rw [this]; exact ht
    simp only [cond_true, eval_same hn ha]

theorem rmapEval_true (m n : List TClause) (t : TRoute) (hm : ∀ y ∈ m, y.ok) (hn : ∀ y ∈ n, y.ok) (ht : t.ok) : F5_crossroadslaw08_RmapEval m n t = true := by
  unfold F5_crossroadslaw08_RmapEval
  simp only [rows_id, route_id, eval_same hm ht.1.1, then_same hm hn ht.1.1, alive_true]
  cases F7_crossroadslaw08_small m <;> cases F7_crossroadslaw08_small n <;> cases F8_crossroadsref08_MayAll m <;> cases F8_crossroadsref08_MayAll n <;> cases F10_crossroadsref08_MayRoute t <;> simp

/-! ### Filter -/
theorem filter_same {m : List TClause} (hm : ∀ y ∈ m, y.ok) : ∀ (l out : List TRoute), (∀ t ∈ l, t.ok) → F25_rmap_Filter_l1 m out l = F26_crossroadsref08_Filter_l1 m out l
  | [], out, _ => rfl
  | t :: l, out, h => by
    unfold F25_rmap_Filter_l1 F26_crossroadsref08_Filter_l1
    rw [eval_same hm (h t List.mem_cons_self).1.1]
    simp only [filter_same hm l _ fun y hy => h y (List.mem_cons_of_mem _ hy)]
theorem in_l4 : ∀ (l out : List TRoute), F6_crossroadslaw08_RmapFilter_l4 out l = .ok (out ++ l) ∨ F6_crossroadslaw08_RmapFilter_l4 out l = .error true
  | [], out => .inl (by simp [F6_crossroadslaw08_RmapFilter_l4])
  | t :: l, out => by
    unfold F6_crossroadslaw08_RmapFilter_l4
    simp only [route_id, alive_true]
    cases F10_crossroadsref08_MayRoute t with
    | true =>
      simp only [cond_true]
      rcases in_l4 l (out ++ [t]) with h | h
      · left; rw [h]; simp
      · right; exact h
    | false => right; rfl
theorem same_l2 (c : List TRoute) : ∀ (l : List TRoute) (i : Nat), (∀ j x, l[j]? = some x → c[i + j]? = some x) → F6_crossroadslaw08_RmapFilter_l2 c i l = .ok ()
  | [], i, _ => rfl
  | t :: l, i, h => by
    unfold F6_crossroadslaw08_RmapFilter_l2
    have h0 : c.getD i default = t := by
      have := h 0 t rfl
      rw [Nat.add_zero] at this
      rw [List.getD_eq_getElem?_getD, this]; rfl
    simp only [route_id, h0, same_l2 c l (i + 1) fun j x hx => by rw [show i + 1 + j = i + (j + 1) by omega]; exact h (j + 1) x (by simpa using hx)]
    simp
theorem same_l3 (c : List TRoute) : ∀ (l : List TRoute) (i : Nat), (∀ j x, l[j]? = some x → c[i + j]? = some x) → F6_crossroadslaw08_RmapFilter_l3 c i l = .ok ()
  | [], i, _ => rfl
  | t :: l, i, h => by
    unfold F6_crossroadslaw08_RmapFilter_l3
    have h0 : c.getD i default = t := by
      have := h 0 t rfl
      rw [Nat.add_zero] at this
      rw [List.getD_eq_getElem?_getD, this]; rfl
    simp only [route_id, h0, same_l3 c l (i + 1) fun j x hx => by rw [show i + 1 + j = i + (j + 1) by omega]; exact h (j + 1) x (by simpa using hx)]
    simp
theorem rmapFilter_true (m : List TClause) (l : List TRoute) (hm : ∀ y ∈ m, y.ok) (hl : ∀ y ∈ l, y.ok) : F6_crossroadslaw08_RmapFilter m l = true := by
  unfold F6_crossroadslaw08_RmapFilter
  simp only [rows_id, alive_true]
  cases F7_crossroadslaw08_small m <;> simp only [cond_true, cond_false]
  cases decide (30 < (l.length : Int)) <;> simp only [cond_true, cond_false]
  cases F8_crossroadsref08_MayAll m <;> simp only [cond_true, cond_false]
  rcases in_l4 l [] with h | h
  · rw [h]
    have hf : F25_rmap_Filter m l = F26_crossroadsref08_Filter m l := filter_same hm l _ hl
    have e2 := same_l2 (F26_crossroadsref08_Filter m l) (F26_crossroadsref08_Filter m l) 0 fun j x hx => by simpa using hx
    have e3 := same_l3 l l 0 fun j x hx => by simpa using hx
    simp only [List.nil_append, hf, e2, e3]
    simp
  · rw [h]

/-! ### Tags -/
theorem k_l2 (tag : Int) : ∀ (m out : List TClause), F3_crossroadslaw08_RmapTags_l2 tag out m = out ++ m.map fun x => { x with SetTag := true, STag := tag }
  | [], out => by simp [F3_crossroadslaw08_RmapTags_l2]
  | x :: m, out => by unfold F3_crossroadslaw08_RmapTags_l2; simp [k_l2 tag m]
theorem deny_l1 : ∀ (m : List TClause) (out : List TClause) (i : Nat), ∃ r, F3_crossroadslaw08_RmapTags_l1 out i m = out ++ r
  | [], out, i => ⟨[], by simp [F3_crossroadslaw08_RmapTags_l1]⟩
  | x :: m, out, i => by
    unfold F3_crossroadslaw08_RmapTags_l1
    obtain ⟨r, hr⟩ := deny_l1 m (out ++ [(⟨IntKind.i64.wrap ((i : Int) + 2), x.Permit, x.Listf, x.MKind, x.MLow, x.MHigh, x.MTags, x.SCost, x.SPlus, x.SKind, x.SetTag, x.STag⟩ : TClause)]) (i + 1)
    exact ⟨_, by rw [hr, List.append_assoc]⟩
theorem all_may {m : List TClause} (h : F8_crossroadsref08_MayAll m = true) : ∀ x ∈ m, F16_crossroadsref08_May x = true := by
  unfold F8_crossroadsref08_MayAll at h
  rw [(rises_clauses m m 0).2] at h
  cases ha : m.all F16_crossroadsref08_May with
  | true => exact List.all_eq_true.1 ha
  | false => rw [ha] at h; cases h
theorem change_bounds {x : TClause} {t : TRoute} {tag : Int} (hx : F16_crossroadsref08_May x = true) (ht : F10_crossroadsref08_MayRoute t = true) : F10_crossroadsref08_MayRoute (F20_rmap_Change { x with SetTag := true, STag := tag } t) = true ∧ (F20_rmap_Change { x with SetTag := true, STag := tag } t).Tag = tag := by
  simp only [F16_crossroadsref08_May, F10_crossroadsref08_MayRoute, F27_crossroadsref08_in, Bool.and_eq_true, decide_eq_true_eq] at hx ht ⊢
  obtain ⟨_, _, _, _, _, hc, hp, hk⟩ := hx
  obtain ⟨ht1, ht2⟩ := ht
  unfold F20_rmap_Change
  by_cases h1 : x.SCost = -1 <;> by_cases h2 : x.SKind = -1 <;> simp only [h1, h2, decide_true, decide_false, cond_true, cond_false] <;>
    (rw [wi64 (by omega) (by omega)]; simp only [min_]; refine ⟨⟨?_, ?_⟩, trivial⟩ <;> (try split) <;> omega)

theorem rmapTags_true (m : List TClause) (t : TRoute) (tag : Int) (hm : ∀ y ∈ m, y.ok) (ht : t.ok) (htag : InK .u32 tag) : F3_crossroadslaw08_RmapTags m t tag = true := by
  unfold F3_crossroadslaw08_RmapTags
  simp only [rows_id, route_id, alive_true]
  cases F7_crossroadslaw08_small m <;> simp only [cond_true, cond_false]
  cases hall : F8_crossroadsref08_MayAll m <;> simp only [cond_true, cond_false]
  cases hmr : F10_crossroadsref08_MayRoute t <;> simp only [cond_true, cond_false]
  rw [k_l2, List.nil_append]
  have h1 : ∀ a b c, F13_rmap_Eval (m.map fun x => { x with SetTag := true, STag := tag }) t = (a, b, c) → b = true → a.Tag = tag ∧ a.P = t.P ∧ F10_crossroadsref08_MayRoute a = true := by
    intro a b c he hb
    rw [eval_find] at he
    cases hf : (m.map fun x => { x with SetTag := true, STag := tag }).find? (fun y => F18_rmap_Matches y t) with
    | none => rw [hf] at he; simp only [Prod.mk.injEq] at he; obtain ⟨_, h, _⟩ := he; rw [← h] at hb; cases hb
    | some y =>
      rw [hf] at he
      obtain ⟨x, hx, rfl⟩ := List.mem_map.1 (List.mem_of_find?_eq_some hf)
      cases hp : x.Permit with
      | false => simp only [hp, cond_false, Prod.mk.injEq] at he; obtain ⟨_, h, _⟩ := he; rw [← h] at hb; cases hb
      | true =>
        simp only [hp, cond_true, Prod.mk.injEq] at he
        obtain ⟨h, _, _⟩ := he
        have hb := change_bounds (tag := tag) (all_may hall x hx) hmr
        have hP := change_P { x with SetTag := true, STag := tag } t
        rw [hp] at hb hP
        rw [h] at hb hP
        exact ⟨hb.2, hP, hb.1⟩
  have h2 : ∀ l a b c, (∃ r, l = [(⟨1, false, [], -1, 0, 16777215, [tag], -1, 0, -1, false, 0⟩ : TClause)] ++ r) → F13_rmap_Eval l t = (a, b, c) → b = true → t.Tag ≠ tag := by
    rintro l a b c ⟨r, rfl⟩ he hb htt
    rw [eval_find] at he
    have hmt : F18_rmap_Matches (⟨1, false, [], -1, 0, 16777215, [tag], -1, 0, -1, false, 0⟩ : TClause) t = true := by
      simp only [F10_crossroadsref08_MayRoute, F27_crossroadsref08_in, Bool.and_eq_true, decide_eq_true_eq] at hmr
      unfold F18_rmap_Matches
      rw [hasTag]
      simp [F34_rmap_isIn, htt, hmr]
    simp only [List.singleton_append, List.find?, hmt] at he
    simp only [cond_false, Prod.mk.injEq] at he
    obtain ⟨_, h, _⟩ := he
    rw [← h] at hb
    cases hb
  obtain ⟨r, hr⟩ := deny_l1 m [(⟨1, false, [], -1, 0, 16777215, [tag], -1, 0, -1, false, 0⟩ : TClause)] 0
  have h3 := fun a b c => h2 (F3_crossroadslaw08_RmapTags_l1 [(⟨1, false, [], -1, 0, 16777215, [tag], -1, 0, -1, false, 0⟩ : TClause)] 0 m) a b c ⟨r, hr⟩
  generalize F13_rmap_Eval (m.map fun x => { x with SetTag := true, STag := tag }) t = e1 at h1
  generalize F13_rmap_Eval (F3_crossroadslaw08_RmapTags_l1 [(⟨1, false, [], -1, 0, 16777215, [tag], -1, 0, -1, false, 0⟩ : TClause)] 0 m) t = e2 at h3
  obtain ⟨a, b, c⟩ := e1
  obtain ⟨a', b', c'⟩ := e2
  have k1 := h1 a b c rfl
  have k3 := h3 a' b' c' rfl
  cases b <;> cases b' <;> simp_all

end Go.Proofs.Ytagiapphmkdnmaa.Abs
