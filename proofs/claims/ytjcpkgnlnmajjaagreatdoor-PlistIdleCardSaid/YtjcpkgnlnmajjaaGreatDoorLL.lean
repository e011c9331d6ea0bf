/- Lists of rules: added, dropped, idle, and the three laws. Plain law: no program in sight. -/
import Derived.Test.YtjcpkgnlnmajjaaGreatDoorLA
import Derived.Test.YtjcpkgnlnmajjaaGreatDoorTy
import Derived.Test.YtjcpkgnlnmajjaaGreatDoorB2
set_option linter.unusedVariables false
set_option linter.unusedSimpArgs false
set_option maxRecDepth 100000
namespace Go.Proofs.YtjcpkgnlnmajjaaGreatDoor.Abs
open Go

theorem alive_true : F11_crossroadslaw07_alive = some true := by kernel_rfl

theorem getI_nat {α : Type} {L : List α} {i : Nat} {x : α} (h : L[i]? = some x) : getI L (i : Int) = some x := by
  unfold getI
  rw [if_pos (by omega)]
  simpa using h

theorem rows_l1 : ∀ (l out : List TRule), out.length + l.length < 1099511627776 → F19_crossroadslaw07_rows_l1 out l = some (out ++ l)
  | [], out, _ => by rw [F19_crossroadslaw07_rows_l1, List.append_nil]
  | x :: l, out, h => by
    rw [F19_crossroadslaw07_rows_l1]
    simp only [List.length_cons] at h
    have d : decide (out.length < 1099511627776) = true := by simp; omega
    simp only [F13_crossroadslaw07_plain, d, cond_true]
    rw [rows_l1 l _ (by simp; omega)]
    simp

theorem rows_eq {l : List TRule} (h : l.length < 1099511627776) : F19_crossroadslaw07_rows l = some l := by
  unfold F19_crossroadslaw07_rows
  rw [rows_l1 l [] (by simpa using h)]
  simp

theorem rmay_same {x : TRule} (h : InK .u32 x.P.A) : F10_plist_May x = F12_crossroadsref07_May x := by
  unfold F10_plist_May F12_crossroadsref07_May
  rw [may_same h]
  by_cases h1 : x.Seq < 1
  · simp [h1]
  · by_cases h2 : 65535 < x.Seq
    · simp [h1, h2]
    · simp only [h1, h2, decide_false, cond_false]
      cases F38_crossroadsref03_May x.P with
      | false => simp
      | true =>
        simp only [Bool.true_and]
        unfold max_
        by_cases h3 : x.Ge = 0
        · simp only [h3, decide_true, cond_true]
          by_cases h4 : x.Le = 0
          · simp [h4]
          · simp only [h4, decide_false, Bool.false_or]
            by_cases h5 : (0 : Int) < x.P.N
            · simp only [h5, if_true]
              rw [Bool.eq_iff_iff]
              simp
              omega
            · simp only [h5, if_false]
              rw [Bool.eq_iff_iff]
              simp
              omega
        · simp only [h3, decide_false, cond_false]
          by_cases h4 : x.Ge ≤ x.P.N
          · have h5 : ¬ x.P.N < x.Ge := by omega
            simp [h4, h5]
          · have h5 : x.P.N < x.Ge := by omega
            have h6 : ¬ x.Ge < x.P.N := by omega
            simp only [h4, h5, h6, decide_true, decide_false, Bool.true_and, cond_false, if_false]
            by_cases h7 : x.Le = 0
            · simp only [h7, decide_true, cond_true, Bool.true_or]
              by_cases h8 : 32 < x.Ge
              · have : ¬ x.Ge ≤ 32 := by omega
                simp [h8, this]
              · have : x.Ge ≤ 32 := by omega
                simp [h8, this]
            · simp only [h7, decide_false, cond_false, Bool.false_or]
              by_cases h8 : 32 < x.Ge
              · have : ¬ x.Ge ≤ 32 := by omega
                simp [h8, this]
              · have : x.Ge ≤ 32 := by omega
                simp only [h8, this, decide_false, decide_true, Bool.true_and, cond_false]
                rw [Bool.eq_iff_iff]
                simp
                omega

theorem bounds_same (x : TRule) : F39_plist_Rule_bounds x = F41_crossroadsref07_Bounds x := rfl

theorem means_same {x : TRule} {q : TPrefix} (h : InK .u32 x.P.A) (hq : InK .u32 q.A) : F14_plist_Means x q = F15_crossroadsref07_Means x q := by
  unfold F14_plist_Means F15_crossroadsref07_Means
  rw [bounds_same, rmay_same h, covers_same h hq]

/-- A rule that may be: its number. -/
theorem rmay_seq {x : TRule} (h : F10_plist_May x = true) : 1 ≤ x.Seq ∧ x.Seq ≤ 65535 ∧ F37_addr_May x.P = true := by
  unfold F10_plist_May at h
  by_cases h1 : x.Seq < 1
  · simp [h1] at h
  · by_cases h2 : 65535 < x.Seq
    · simp [h1, h2] at h
    · simp only [h1, h2, decide_false, cond_false, Bool.and_eq_true] at h
      exact ⟨by omega, by omega, h.1⟩

/-! ### Lists that may be -/

structure LOk (l : List TRule) : Prop where
  may : ∀ x ∈ l, F10_plist_May x = true
  srt : l.Pairwise fun a b => a.Seq < b.Seq
  u32 : ∀ x ∈ l, InK .u32 x.P.A

theorem mayAll_l1 {l : List TRule} : ∀ (rest pre : List TRule), l = pre ++ rest → F18_crossroadsref07_MayAll_l1 l pre.length rest = .ok () → (∀ x ∈ rest, F12_crossroadsref07_May x = true) ∧ (∀ (k : Nat) (a b : TRule), pre.length ≤ k + 1 → l[k]? = some a → l[k + 1]? = some b → a.Seq < b.Seq)
  | [], pre, he, _ => by
    refine ⟨fun x hx => (by cases hx), fun k a b hk ha hb => ?_⟩
    have := (List.getElem?_eq_some_iff.1 hb).1
    rw [he] at this
    simp at this
    omega
  | x :: rest, pre, he, h => by
    rw [F18_crossroadsref07_MayAll_l1] at h
    cases hm : F12_crossroadsref07_May x with
    | false => simp [hm] at h
    | true =>
      simp only [hm, cond_true] at h
      have hx : l[pre.length]? = some x := by rw [he]; simp
      have he' : l = (pre ++ [x]) ++ rest := by rw [he]; simp
      have hlen : (pre ++ [x]).length = pre.length + 1 := by simp
      by_cases h0 : pre.length = 0
      · have d : decide (0 < (pre.length : Int)) = false := by simp only [decide_eq_false_iff_not]; omega
        rw [d] at h
        simp only [cond_false] at h
        rw [← hlen] at h
        obtain ⟨k1, k2⟩ := mayAll_l1 rest (pre ++ [x]) he' h
        refine ⟨fun y hy => ?_, fun k a b hk ha hb => k2 k a b (by rw [hlen]; omega) ha hb⟩
        rcases List.mem_cons.1 hy with rfl | hy
        · exact hm
        · exact k1 y hy
      · have d : decide (0 < (pre.length : Int)) = true := by simp; omega
        rw [d] at h
        simp only [cond_true] at h
        by_cases hle : x.Seq ≤ (l.getD (pre.length - 1) default).Seq
        · have : decide (x.Seq ≤ (l.getD (pre.length - 1) default).Seq) = true := by simpa using hle
          rw [this] at h
          simp at h
        · have : decide (x.Seq ≤ (l.getD (pre.length - 1) default).Seq) = false := by simpa using hle
          rw [this] at h
          simp only [cond_false] at h
          rw [← hlen] at h
          obtain ⟨k1, k2⟩ := mayAll_l1 rest (pre ++ [x]) he' h
          refine ⟨fun y hy => ?_, fun k a b hk ha hb => ?_⟩
          · rcases List.mem_cons.1 hy with rfl | hy
            · exact hm
            · exact k1 y hy
          · by_cases hk2 : k + 1 = pre.length
            · have e : k = pre.length - 1 := by omega
              rw [hk2, hx] at hb
              injection hb with hb
              subst hb
              have hg : l.getD (pre.length - 1) default = a := by
                rw [← e]
                simp [List.getD, ha]
              rw [hg] at hle
              omega
            · exact k2 k a b (by rw [hlen]; omega) ha hb

theorem pairwise_adj {l : List TRule} (h : ∀ (k : Nat) (a b : TRule), l[k]? = some a → l[k + 1]? = some b → a.Seq < b.Seq) : l.Pairwise fun a b => a.Seq < b.Seq := by
  rw [List.pairwise_iff_getElem]
  intro i j hi hj hij
  have key : ∀ d i (hi : i < l.length) (hj : i + d + 1 < l.length), l[i].Seq < l[i + d + 1].Seq := by
    intro d
    induction d with
    | zero => intro i hi hj; exact h i _ _ (List.getElem?_eq_getElem hi) (List.getElem?_eq_getElem hj)
    | succ d ih =>
      intro i hi hj
      have h1 := ih i hi (by omega)
      have h2 := h (i + d + 1) _ _ (List.getElem?_eq_getElem (by omega)) (List.getElem?_eq_getElem (by omega : i + d + 1 + 1 < l.length))
      exact Int.lt_trans h1 h2
  have := key (j - i - 1) i hi (by omega)
  have e : i + (j - i - 1) + 1 = j := by omega
  simpa only [e] using this

theorem mayAll_ok {l : List TRule} (hu : ∀ x ∈ l, InK .u32 x.P.A) (h : F18_crossroadsref07_MayAll l = true) : LOk l := by
  unfold F18_crossroadsref07_MayAll at h
  have h2 : F18_crossroadsref07_MayAll_l1 l 0 l = .ok () := by
    have key : ∀ (rest : List TRule) (i : Nat), F18_crossroadsref07_MayAll_l1 l i rest = .ok () ∨ F18_crossroadsref07_MayAll_l1 l i rest = .error false := by
      intro rest
      induction rest with
      | nil => intro i; exact .inl rfl
      | cons x rest ih =>
        intro i
        rw [F18_crossroadsref07_MayAll_l1]
        cases F12_crossroadsref07_May x
        · exact .inr rfl
        · simp only [cond_true]
          cases decide (0 < (i : Int))
          · simp only [cond_false]; exact ih _
          · simp only [cond_true]
            cases decide (x.Seq ≤ (l.getD (i - 1) default).Seq)
            · simp only [cond_false]; exact ih _
            · exact .inr rfl
    rcases key l 0 with k | k
    · exact k
    · rw [k] at h; cases h
  obtain ⟨k1, k2⟩ := mayAll_l1 l [] rfl h2
  exact ⟨fun x hx => by rw [rmay_same (hu x hx)]; exact k1 x hx, pairwise_adj fun k a b ha hb => k2 k a b (by simp) ha hb, hu⟩

/-! ### The first that fits -/

theorem idx51_l1 (f : TRule → Bool) : ∀ (l : List TRule) (i : Nat), (∃ pre x r, l = pre ++ x :: r ∧ f x = true ∧ (∀ y ∈ pre, f y = false) ∧ F51_slices_IndexFunc_l1 f i l = .error ((i + pre.length : Nat) : Int)) ∨ ((∀ y ∈ l, f y = false) ∧ F51_slices_IndexFunc_l1 f i l = .ok ())
  | [], i => .inr ⟨fun y hy => (by cases hy), rfl⟩
  | x :: l, i => by
    rw [F51_slices_IndexFunc_l1]
    cases hx : f x with
    | true => exact .inl ⟨[], x, l, rfl, hx, fun y hy => (by cases hy), by simp⟩
    | false =>
      simp only [cond_false]
      rcases idx51_l1 f l (i + 1) with ⟨pre, y, r, e, h1, h2, h3⟩ | ⟨h1, h2⟩
      · refine .inl ⟨x :: pre, y, r, by rw [e]; rfl, h1, fun z hz => ?_, ?_⟩
        · rcases List.mem_cons.1 hz with rfl | hz
          · exact hx
          · exact h2 z hz
        · rw [h3]
          simp only [List.length_cons]
          rw [show i + 1 + pre.length = i + (pre.length + 1) by omega]
      · refine .inr ⟨fun z hz => ?_, h2⟩
        rcases List.mem_cons.1 hz with rfl | hz
        · exact hx
        · exact h1 z hz

theorem idx51 (f : TRule → Bool) (l : List TRule) : (∃ pre x r, l = pre ++ x :: r ∧ f x = true ∧ (∀ y ∈ pre, f y = false) ∧ F51_slices_IndexFunc l f = (pre.length : Int)) ∨ ((∀ y ∈ l, f y = false) ∧ F51_slices_IndexFunc l f = -1) := by
  unfold F51_slices_IndexFunc
  rcases idx51_l1 f l 0 with ⟨pre, x, r, e, h1, h2, h3⟩ | ⟨h1, h2⟩
  · exact .inl ⟨pre, x, r, e, h1, h2, by rw [h3]; simp⟩
  · exact .inr ⟨h1, by rw [h2]⟩

theorem has48 (f : TRule → Bool) (l : List TRule) : F48_slices_ContainsFunc l f = l.any f := by
  unfold F48_slices_ContainsFunc
  rcases idx51 f l with ⟨pre, x, r, e, h1, h2, h3⟩ | ⟨h1, h2⟩
  · rw [h3, e]
    simp [h1]
  · rw [h2]
    simp
    exact h1

def dropW (l : List TRule) (s : Int) : List TRule × Int := if l.any (fun x => decide (x.Seq = s)) = true then (l.filter (fun x => decide (x.Seq ≠ s)), 0) else ([], 6)

theorem srt_mid {pre r : List TRule} {x : TRule} (h : (pre ++ x :: r).Pairwise fun a b => a.Seq < b.Seq) : (∀ y ∈ pre, y.Seq < x.Seq) ∧ (∀ y ∈ r, x.Seq < y.Seq) := by
  rw [List.pairwise_append] at h
  obtain ⟨_, h2, h3⟩ := h
  rw [List.pairwise_cons] at h2
  exact ⟨fun y hy => h3 y hy x List.mem_cons_self, h2.1⟩

theorem filter_ne {pre r : List TRule} {x : TRule} (h : (pre ++ x :: r).Pairwise fun a b => a.Seq < b.Seq) : (pre ++ x :: r).filter (fun y => decide (y.Seq ≠ x.Seq)) = pre ++ r := by
  obtain ⟨h1, h2⟩ := srt_mid h
  rw [List.filter_append, List.filter_cons]
  have e1 : pre.filter (fun y => decide (y.Seq ≠ x.Seq)) = pre := List.filter_eq_self.2 fun y hy => by have := h1 y hy; simp; omega
  have e2 : r.filter (fun y => decide (y.Seq ≠ x.Seq)) = r := List.filter_eq_self.2 fun y hy => by have := h2 y hy; simp; omega
  rw [e1, e2]
  simp

theorem drop_eq {l : List TRule} (hl : l.length < 1099511627776) (hs : l.Pairwise fun a b => a.Seq < b.Seq) (s : Int) : F21_plist_Drop l s = some (dropW l s) := by
  unfold F21_plist_Drop dropW
  rcases idx51 (fun y0 => F52_plist_Drop_1 y0 s) l with ⟨pre, x, r, e, h1, h2, h3⟩ | ⟨h1, h2⟩
  · have hx : x.Seq = s := by simpa [F52_plist_Drop_1] using h1
    have hlen : l.length = pre.length + (r.length + 1) := by rw [e]; simp
    rw [h3]
    have hw : IntKind.i64.wrap ((pre.length : Int) + 1) = ((pre.length + 1 : Nat) : Int) := by rw [wi64 (by omega) (by omega)]; omega
    have d0 : decide ((pre.length : Int) < 0) = false := by simp
    have d1 : decide (l.length < 1099511627776) = true := by simpa using hl
    have d2 : decide ((0 : Int) ≤ (pre.length : Int)) = true := by simp
    have d3 : decide ((pre.length : Int) ≤ ((pre.length + 1 : Nat) : Int)) = true := by simp; omega
    have d4 : decide (((pre.length + 1 : Nat) : Int) ≤ (l.length : Int)) = true := by simp; omega
    simp only [hw, d0, d1, d2, d3, d4, cond_true, cond_false]
    have ha : l.any (fun x => decide (x.Seq = s)) = true := List.any_eq_true.2 ⟨x, by rw [e]; simp, by simpa using hx⟩
    rw [if_pos ha]
    congr 2
    rw [← hx]
    subst e
    rw [filter_ne hs]
    unfold del_
    simp
  · rw [h2]
    have ha : ¬ l.any (fun x => decide (x.Seq = s)) = true := by
      intro k
      obtain ⟨x, hx, hk⟩ := List.any_eq_true.1 k
      have := h1 x hx
      simp [F52_plist_Drop_1] at this
      simp at hk
      exact this hk
    rw [if_neg ha]
    rfl

theorem refDrop_l1 (s : Int) : ∀ (l out : List TRule), out.length + l.length < 1099511627776 → F26_crossroadsref07_Drop_l1 s out l = some (out ++ l.filter fun x => decide (x.Seq ≠ s))
  | [], out, _ => by rw [F26_crossroadsref07_Drop_l1]; simp
  | x :: l, out, h => by
    rw [F26_crossroadsref07_Drop_l1]
    simp only [List.length_cons] at h
    by_cases hx : x.Seq = s
    · have : decide (x.Seq = s) = true := by simpa using hx
      rw [this]
      simp only [cond_true]
      rw [refDrop_l1 s l out (by omega), List.filter_cons]
      simp [hx]
    · have : decide (x.Seq = s) = false := by simpa using hx
      have d : decide (out.length < 1099511627776) = true := by simp; omega
      rw [this, d]
      simp only [cond_true, cond_false]
      rw [refDrop_l1 s l _ (by simp; omega), List.filter_cons]
      simp [hx]

theorem refDrop_eq {l : List TRule} (hl : l.length < 1099511627776) (s : Int) : F26_crossroadsref07_Drop l s = some (dropW l s) := by
  unfold F26_crossroadsref07_Drop dropW
  rw [refDrop_l1 s l [] (by simpa using hl)]
  simp only [List.nil_append]
  by_cases ha : l.any (fun x => decide (x.Seq = s)) = true
  · rw [if_pos ha]
    have : decide (((l.filter fun x => decide (x.Seq ≠ s)).length : Int) = (l.length : Int)) = false := by
      simp only [decide_eq_false_iff_not]
      intro k
      have k : (l.filter fun x => decide (x.Seq ≠ s)).length = l.length := by omega
      obtain ⟨x, hx, hk⟩ := List.any_eq_true.1 ha
      have := List.length_filter_eq_length_iff.1 k x hx
      simp at this hk
      exact this hk
    rw [this]
    rfl
  · rw [if_neg ha]
    have : decide (((l.filter fun x => decide (x.Seq ≠ s)).length : Int) = (l.length : Int)) = true := by
      simp only [decide_eq_true_eq]
      have : (l.filter fun x => decide (x.Seq ≠ s)).length = l.length := List.length_filter_eq_length_iff.2 fun x hx => by
        simp
        intro k
        exact ha (List.any_eq_true.2 ⟨x, hx, by simpa using k⟩)
      omega
    rw [this]
    rfl

def evalW (l : List TRule) (q : TPrefix) : Bool × Int := match l.find? fun x => F14_plist_Means x q with
  | some x => (x.Permit, x.Seq)
  | none => (false, 0)

theorem eval_eq (l : List TRule) (q : TPrefix) : F22_plist_Eval l q = some (evalW l q) := by
  unfold F22_plist_Eval evalW
  rcases idx51 (fun y0 => F55_plist_Eval_1 y0 q) l with ⟨pre, x, r, e, h1, h2, h3⟩ | ⟨h1, h2⟩
  · have hf : l.find? (fun x => F14_plist_Means x q) = some x := by
      rw [e, List.find?_append, List.find?_eq_none.2 (fun y hy => by have := h2 y hy; simp only [F55_plist_Eval_1] at this; simp [this])]
      simp only [F55_plist_Eval_1] at h1
      simp [h1]
    rw [h3, hf]
    have d0 : decide ((pre.length : Int) < 0) = false := by simp
    simp only [d0, cond_false]
    rw [getI_nat (x := x) (by rw [e]; simp)]
  · have hf : l.find? (fun x => F14_plist_Means x q) = none := List.find?_eq_none.2 fun y hy => by have := h1 y hy; simp only [F55_plist_Eval_1] at this; simp [this]
    rw [h2, hf]
    rfl

theorem refEval_eq {l : List TRule} {q : TPrefix} (hu : ∀ x ∈ l, InK .u32 x.P.A) (hq : InK .u32 q.A) : F27_crossroadsref07_Eval l q = evalW l q := by
  unfold F27_crossroadsref07_Eval evalW
  have : ∀ l : List TRule, (∀ x ∈ l, InK .u32 x.P.A) → F27_crossroadsref07_Eval_l1 q l = match l.find? (fun x => F14_plist_Means x q) with
      | some x => .error (x.Permit, x.Seq)
      | none => .ok () := by
    intro l
    induction l with
    | nil => intro _; rfl
    | cons x l ih =>
      intro hu
      rw [F27_crossroadsref07_Eval_l1, ← means_same (hu x List.mem_cons_self) hq, ih fun y hy => hu y (List.mem_cons_of_mem _ hy), List.find?_cons]
      cases F14_plist_Means x q <;> rfl
  rw [this l hu]
  cases l.find? (fun x => F14_plist_Means x q) <;> rfl

structure Lm (l : List TRule) (s : Int) : Prop where
  srt : l.Pairwise fun a b => a.Seq < b.Seq
  bnd : ∀ x ∈ l, 1 ≤ x.Seq ∧ x.Seq ≤ 65535
  len : l.length ≤ 1000
  s : 1 ≤ s ∧ s ≤ 65535

theorem cmp75 {x : TRule} {s : Int} (hx : 1 ≤ x.Seq ∧ x.Seq ≤ 65535) (hs : 1 ≤ s ∧ s ≤ 65535) : F75_plist_find_1 x s = x.Seq - s := by
  unfold F75_plist_find_1
  exact wi64 (by omega) (by omega)

theorem bs_l1 {l : List TRule} {s : Int} (h : Lm l s) : ∀ (fuel i j : Nat), i ≤ j → j ≤ l.length → j - i < 2 ^ fuel →
    (∀ a (ha : a < l.length), a < i → l[a].Seq < s) → (∀ a (ha : a < l.length), j ≤ a → ¬ l[a].Seq < s) →
    ∃ c : Nat, F74_slices_BinarySearchFunc_l1 l s (fun y0 y1 => F75_plist_find_1 y0 y1) (fuel + 1) (i : Int) (j : Int) = some ((c : Int), (c : Int)) ∧ c ≤ l.length ∧
      (∀ a (ha : a < l.length), a < c → l[a].Seq < s) ∧ (∀ a (ha : a < l.length), c ≤ a → ¬ l[a].Seq < s)
  | fuel, i, j, hij, hj, hf, hlo, hhi => by
    have hlen := h.len
    unfold F74_slices_BinarySearchFunc_l1
    by_cases hlt : i < j
    · have hlt' : (i : Int) < (j : Int) := by omega
      simp only [hlt', decide_true, cond_true]
      rw [mid_eq (by omega) (by omega) (by omega), show ((i : Int) + (j : Int)) / 2 = (((i + j) / 2 : Nat) : Int) by omega]
      have hm : (i + j) / 2 < l.length := by omega
      rw [getI_nat (List.getElem?_eq_getElem hm)]
      simp only [cmp75 (h.bnd _ (List.getElem_mem hm)) h.s]
      match fuel, hf with
      | 0, hf => omega
      | fuel + 1, hf =>
        have hf2 : j - i < 2 * 2 ^ fuel := by rw [Nat.pow_succ] at hf; omega
        by_cases hc : l[(i + j) / 2].Seq < s
        · have hc' : l[(i + j) / 2].Seq - s < 0 := by omega
          simp only [hc', decide_true, cond_true]
          rw [show IntKind.i64.wrap ((((i + j) / 2 : Nat) : Int) + 1) = (((i + j) / 2 + 1 : Nat) : Int) by rw [wi64 (by omega) (by omega)]; omega]
          refine bs_l1 h fuel ((i + j) / 2 + 1) j (by omega) hj (by omega) (fun a ha hai => ?_) hhi
          rcases Nat.lt_or_eq_of_le (Nat.le_of_lt_succ hai) with q | q
          · exact Int.lt_trans (List.pairwise_iff_getElem.1 h.srt a _ ha hm q) hc
          · subst q; exact hc
        · have hc' : ¬ l[(i + j) / 2].Seq - s < 0 := by omega
          simp only [hc', decide_false, cond_false]
          refine bs_l1 h fuel i ((i + j) / 2) (by omega) (by omega) (by omega) hlo (fun a ha hai => ?_)
          rcases Nat.lt_or_eq_of_le hai with q | q
          · have := List.pairwise_iff_getElem.1 h.srt _ a hm ha q
            intro q2; exact hc (Int.lt_trans this q2)
          · subst q; exact hc
    · have hlt' : ¬ (i : Int) < (j : Int) := by omega
      simp only [hlt', decide_false, cond_false]
      have : i = j := by omega
      subst this
      exact ⟨i, rfl, hj, hlo, hhi⟩

/-- Where a number stands, or would. -/
theorem find_eq {l : List TRule} {s : Int} (h : Lm l s) : ∃ A B, l = A ++ B ∧ (∀ y ∈ A, y.Seq < s) ∧ (∀ y ∈ B, ¬ y.Seq < s) ∧ F56_plist_find l s = some ((A.length : Int), l.any fun y => decide (y.Seq = s)) := by
  have hlen := h.len
  have hp99 : l.length - 0 < 2 ^ 99 := Nat.lt_of_lt_of_le (show l.length - 0 < 2 ^ 10 by omega) (Nat.pow_le_pow_right (by decide) (by decide))
  obtain ⟨c, h1, h2, h3, h4⟩ := bs_l1 h 99 0 l.length (Nat.zero_le _) (Nat.le_refl _) hp99 (fun a ha h0 => absurd h0 (Nat.not_lt_zero _)) (fun a ha h0 => absurd ha (by omega))
  have hA : ∀ y ∈ l.take c, y.Seq < s := by
    intro y hy
    obtain ⟨i, hi, rfl⟩ := List.getElem_of_mem hy
    rw [List.length_take] at hi
    rw [List.getElem_take]
    exact h3 i (by omega) (by omega)
  have hB : ∀ y ∈ l.drop c, ¬ y.Seq < s := by
    intro y hy
    obtain ⟨i, hi, rfl⟩ := List.getElem_of_mem hy
    rw [List.length_drop] at hi
    rw [List.getElem_drop]
    exact h4 _ (by omega) (by omega)
  refine ⟨l.take c, l.drop c, (List.take_append_drop c l).symm, hA, hB, ?_⟩
  unfold F56_plist_find F74_slices_BinarySearchFunc
  have e0 : (((0 : Nat) : Int)) = 0 := rfl
  rw [e0] at h1
  rw [h1]
  have e1 : (l.take c).length = c := by rw [List.length_take]; omega
  rw [e1]
  by_cases hc : c < l.length
  · have d : decide ((c : Int) < (l.length : Int)) = true := by simp; omega
    simp only [d, cond_true]
    rw [getI_nat (List.getElem?_eq_getElem hc)]
    simp only [cmp75 (h.bnd _ (List.getElem_mem hc)) h.s]
    congr 2
    rw [Bool.eq_iff_iff]
    simp only [decide_eq_true_eq, List.any_eq_true]
    constructor
    · intro k
      exact ⟨_, List.getElem_mem hc, by omega⟩
    · rintro ⟨y, hy, k⟩
      obtain ⟨i, hi, rfl⟩ := List.getElem_of_mem hy
      rcases Nat.lt_trichotomy i c with q | q | q
      · have := h3 i hi q; omega
      · subst q; omega
      · have k2 := List.pairwise_iff_getElem.1 h.srt c i hc hi q
        have := h4 c hc (Nat.le_refl _)
        omega
  · have d : decide ((c : Int) < (l.length : Int)) = false := by simp; omega
    simp only [d, cond_false]
    congr 2
    symm
    rw [List.any_eq_false]
    intro y hy
    have hcl : l.take c = l := List.take_of_length_le (by omega)
    rw [hcl] at hA
    have := hA y hy
    simp
    omega

theorem filter_parts {A B : List TRule} {s : Int} (hA : ∀ y ∈ A, y.Seq < s) (hB : ∀ y ∈ B, s < y.Seq) :
    (A ++ B).filter (fun y => decide (y.Seq < s)) = A ∧ (A ++ B).filter (fun y => decide (s < y.Seq)) = B := by
  rw [List.filter_append, List.filter_append]
  have e1 : A.filter (fun y => decide (y.Seq < s)) = A := List.filter_eq_self.2 fun y hy => by have := hA y hy; simp; omega
  have e2 : A.filter (fun y => decide (s < y.Seq)) = [] := List.filter_eq_nil_iff.2 fun y hy => by have := hA y hy; simp; omega
  have e3 : B.filter (fun y => decide (y.Seq < s)) = [] := List.filter_eq_nil_iff.2 fun y hy => by have := hB y hy; simp; omega
  have e4 : B.filter (fun y => decide (s < y.Seq)) = B := List.filter_eq_self.2 fun y hy => by have := hB y hy; simp; omega
  rw [e1, e2, e3, e4]
  simp

def putW (l : List TRule) (x : TRule) : List TRule := l.filter (fun y => decide (y.Seq < x.Seq)) ++ x :: l.filter (fun y => decide (x.Seq < y.Seq))

def addW (l : List TRule) (x : TRule) : List TRule × Int :=
  if F10_plist_May x = true then (if l.any (fun y => decide (y.Seq = x.Seq)) = true then ([], 7) else if 200 ≤ l.length then ([], 8) else (putW l x, 0)) else ([], 1)

theorem add_eq {l : List TRule} (hl : LOk l) (hn : l.length ≤ 1000) (x : TRule) : F23_plist_Add l x = some (addW l x) := by
  unfold F23_plist_Add addW
  cases hm : F10_plist_May x with
  | false => rfl
  | true =>
    simp only [cond_true, if_true]
    obtain ⟨x1, x2, _⟩ := rmay_seq hm
    have hL : Lm l x.Seq := ⟨hl.srt, fun y hy => ⟨(rmay_seq (hl.may y hy)).1, (rmay_seq (hl.may y hy)).2.1⟩, hn, x1, x2⟩
    obtain ⟨A, B, e, hA, hB, hF⟩ := find_eq hL
    rw [hF]
    cases ha : l.any (fun y => decide (y.Seq = x.Seq)) with
    | true => simp
    | false =>
      simp only [cond_false]
      by_cases h2 : 200 ≤ l.length
      · have d : decide (200 ≤ (l.length : Int)) = true := by simp; omega
        rw [d]
        simp [h2]
      · have d : decide (200 ≤ (l.length : Int)) = false := by simp; omega
        have d1 : decide (l.length < 1099511627776) = true := by simp; omega
        have d2 : decide ((0 : Int) ≤ (A.length : Int)) = true := by simp
        have hle := congrArg List.length e
        rw [List.length_append] at hle
        have d3 : decide ((A.length : Int) ≤ (l.length : Int)) = true := by simp; omega
        simp only [d, d1, d2, d3, cond_true, cond_false, if_neg h2]
        congr 2
        have hB' : ∀ y ∈ B, x.Seq < y.Seq := fun y hy => by
          have k1 := hB y hy
          have k2 := List.any_eq_false.1 ha y (by rw [e]; exact List.mem_append_right _ hy)
          simp at k2
          omega
        obtain ⟨f1, f2⟩ := filter_parts hA hB'
        unfold putW ins_
        rw [e, f1, f2]
        simp

theorem refAdd_put (x : TRule) : ∀ (l out : List TRule), out.length + l.length < 1099511627776 → F25_crossroadsref07_Add_l1 x true out l = some (true, out ++ l)
  | [], out, _ => by rw [F25_crossroadsref07_Add_l1]; simp
  | y :: l, out, h => by
    rw [F25_crossroadsref07_Add_l1]
    simp only [List.length_cons] at h
    have d : decide (out.length < 1099511627776) = true := by simp; omega
    simp only [cond_true, d]
    rw [refAdd_put x l _ (by simp; omega)]
    simp

theorem refAdd_l1 (x : TRule) : ∀ (l out : List TRule), out.length + l.length < 1099511627770 → (l.Pairwise fun a b => a.Seq < b.Seq) → (∀ y ∈ l, y.Seq ≠ x.Seq) →
    F25_crossroadsref07_Add_l1 x false out l = some (true, out ++ putW l x) ∨ (F25_crossroadsref07_Add_l1 x false out l = some (false, out ++ l) ∧ ∀ y ∈ l, y.Seq < x.Seq)
  | [], out, _, _, _ => .inr ⟨by rw [F25_crossroadsref07_Add_l1]; simp, fun y hy => (by cases hy)⟩
  | y :: l, out, h, hs, hne => by
    rw [F25_crossroadsref07_Add_l1]
    simp only [List.length_cons] at h
    have d : decide (out.length < 1099511627776) = true := by simp; omega
    rw [List.pairwise_cons] at hs
    by_cases hlt : x.Seq < y.Seq
    · have d2 : decide ((out ++ ([x] : List TRule)).length < 1099511627776) = true := by simp; omega
      simp only [hlt, decide_true, cond_true, cond_false, d, d2]
      left
      rw [refAdd_put x l _ (by simp; omega)]
      have e1 : (y :: l).filter (fun z => decide (z.Seq < x.Seq)) = [] := List.filter_eq_nil_iff.2 fun z hz => by
        rcases List.mem_cons.1 hz with rfl | hz
        · simp; omega
        · have := hs.1 z hz; simp; omega
      have e2 : (y :: l).filter (fun z => decide (x.Seq < z.Seq)) = y :: l := List.filter_eq_self.2 fun z hz => by
        rcases List.mem_cons.1 hz with rfl | hz
        · simp; omega
        · have := hs.1 z hz; simp; omega
      unfold putW
      rw [e1, e2]
      simp
    · have hne' := hne y List.mem_cons_self
      have hlt2 : y.Seq < x.Seq := by omega
      simp only [hlt, decide_false, cond_true, cond_false, d]
      rcases refAdd_l1 x l (out ++ [y]) (by simp; omega) hs.2 (fun z hz => hne z (List.mem_cons_of_mem _ hz)) with k | ⟨k, k2⟩
      · left
        rw [k]
        unfold putW
        rw [List.filter_cons, List.filter_cons, if_pos (by simpa using hlt2), if_neg (by simpa using hlt)]
        simp
      · right
        refine ⟨by rw [k]; simp, fun z hz => ?_⟩
        rcases List.mem_cons.1 hz with rfl | hz
        · exact hlt2
        · exact k2 z hz

theorem refAdd_eq {l : List TRule} (hl : LOk l) (hn : l.length ≤ 1000) {x : TRule} (hx : InK .u32 x.P.A) : F25_crossroadsref07_Add l x = some (addW l x) := by
  unfold F25_crossroadsref07_Add addW
  rw [← rmay_same hx]
  cases hm : F10_plist_May x with
  | false => rfl
  | true =>
    simp only [cond_true, if_true]
    rw [refDrop_eq (by omega)]
    unfold dropW
    cases ha : l.any (fun y => decide (y.Seq = x.Seq)) with
    | true => simp
    | false =>
      simp only [Bool.false_eq_true, if_false]
      have d6 : decide ((6 : Int) = 0) = false := by decide
      rw [d6]
      simp only [cond_false]
      by_cases h2 : 200 ≤ l.length
      · have d : decide (200 ≤ (l.length : Int)) = true := by simp; omega
        rw [d]
        simp [h2]
      · have d : decide (200 ≤ (l.length : Int)) = false := by simp; omega
        rw [d]
        simp only [cond_false, if_neg h2]
        have hne : ∀ y ∈ l, y.Seq ≠ x.Seq := fun y hy => by
          have := List.any_eq_false.1 ha y hy
          simpa using this
        rcases refAdd_l1 x l [] (by simp; omega) hl.srt hne with k | ⟨k, k2⟩
        · rw [k]
          simp
        · rw [k]
          have d3 : decide ((([] : List TRule) ++ l).length < 1099511627776) = true := by simp; omega
          simp only [d3, cond_true, cond_false]
          have e1 : l.filter (fun z => decide (z.Seq < x.Seq)) = l := List.filter_eq_self.2 fun z hz => by have := k2 z hz; simp; omega
          have e2 : l.filter (fun z => decide (x.Seq < z.Seq)) = [] := List.filter_eq_nil_iff.2 fun z hz => by have := k2 z hz; simp; omega
          unfold putW
          rw [e1, e2]
          simp

/-! ### Idle rules -/

def idG : List TRule → List TRule → List Int
  | _, [] => []
  | pre, x :: rest => if pre.any (fun y => F50_plist_Rule_hides y x) = true then x.Seq :: idG (pre ++ [x]) rest else idG (pre ++ [x]) rest

def keepG : List TRule → List TRule → List TRule
  | _, [] => []
  | pre, x :: rest => if pre.any (fun y => F50_plist_Rule_hides y x) = true then keepG (pre ++ [x]) rest else x :: keepG (pre ++ [x]) rest

theorem idG_len : ∀ (rest pre : List TRule), (keepG pre rest).length + (idG pre rest).length = rest.length
  | [], pre => rfl
  | x :: rest, pre => by
    have ih := idG_len rest (pre ++ [x])
    unfold idG keepG
    by_cases h : pre.any (fun y => F50_plist_Rule_hides y x) = true
    · rw [if_pos h, if_pos h]; simp; omega
    · rw [if_neg h, if_neg h]; simp; omega

theorem idle_l1 {l : List TRule} : ∀ (rest pre : List TRule) (out : List Int), l = pre ++ rest → out.length + rest.length < 1099511627776 → F20_plist_Idle_l1 l out pre.length rest = some (out ++ idG pre rest)
  | [], pre, out, _, _ => by rw [F20_plist_Idle_l1]; simp [idG]
  | x :: rest, pre, out, he, hn => by
    rw [F20_plist_Idle_l1]
    simp only [List.length_cons] at hn
    have hlen : (pre ++ [x]).length = pre.length + 1 := by simp
    have he' : l = (pre ++ [x]) ++ rest := by rw [he]; simp
    have d0 : decide ((0 : Int) ≤ (pre.length : Int)) = true := by simp
    have d1 : decide ((pre.length : Int) ≤ (l.length : Int)) = true := by rw [he]; simp; omega
    have d2 : decide (out.length < 1099511627776) = true := by simp; omega
    have ht : l.take pre.length = pre := by rw [he]; simp
    have e : F48_slices_ContainsFunc (l.take pre.length) (fun y0 => F49_plist_Idle_1 y0 x) = pre.any (fun y => F50_plist_Rule_hides y x) := by rw [ht, has48]; rfl
    simp only [d0, d1, d2, e, cond_true]
    rw [idG]
    cases h : pre.any (fun y => F50_plist_Rule_hides y x) with
    | true =>
      simp only [cond_true, if_true]
      rw [← hlen, idle_l1 rest (pre ++ [x]) _ he' (by simp; omega)]
      simp
    | false =>
      simp only [cond_false, Bool.false_eq_true, if_false]
      rw [← hlen, idle_l1 rest (pre ++ [x]) _ he' (by omega)]

theorem idle_eq {l : List TRule} (hn : l.length ≤ 1000) : F20_plist_Idle l = some (idG [] l) := by
  unfold F20_plist_Idle
  have := idle_l1 (l := l) l [] [] rfl (by simp; omega)
  simp only [List.length_nil, List.nil_append] at this
  rw [this]

theorem refHide {y x : TRule} (hy : InK .u32 y.P.A) (hx : InK .u32 x.P.A) : F50_plist_Rule_hides y x = (F42_crossroadsref03_Covers y.P x.P && (decide ((F41_crossroadsref07_Bounds y).1 ≤ (F41_crossroadsref07_Bounds x).1) && decide ((F41_crossroadsref07_Bounds x).2 ≤ (F41_crossroadsref07_Bounds y).2))) := by
  unfold F50_plist_Rule_hides
  rw [bounds_same, bounds_same, covers_same hy hx]

theorem refIdle_l1 {l : List TRule} {x : TRule} {i : Nat} (hi : i ≤ l.length) (hn : i ≤ 1000) (hu : ∀ y ∈ l, InK .u32 y.P.A) (hx : InK .u32 x.P.A) : ∀ (k j : Nat) (b : Bool), j + k = i → F29_crossroadsref07_Idle_l1 l i x (F41_crossroadsref07_Bounds x).1 (F41_crossroadsref07_Bounds x).2 k b (j : Int) = some (b || ((l.take i).drop j).any fun y => F50_plist_Rule_hides y x)
  | 0, j, b, hj => by
    unfold F29_crossroadsref07_Idle_l1
    have d : decide ((j : Int) < (i : Int)) = false := by simp; omega
    rw [d]
    simp only [cond_false]
    rw [List.drop_of_length_le (by rw [List.length_take]; omega)]
    simp
  | k + 1, j, b, hj => by
    unfold F29_crossroadsref07_Idle_l1
    have d : decide ((j : Int) < (i : Int)) = true := by simp; omega
    have hjl : j < l.length := by omega
    rw [d]
    simp only [cond_true]
    rw [getI_nat (List.getElem?_eq_getElem hjl)]
    have hw : IntKind.i64.wrap ((j : Int) + 1) = ((j + 1 : Nat) : Int) := by rw [wi64 (by omega) (by omega)]; omega
    have hd : (l.take i).drop j = l[j] :: (l.take i).drop (j + 1) := by
      rw [List.drop_eq_getElem_cons (by rw [List.length_take]; omega)]
      simp
    rw [hd, List.any_cons, refHide (hu _ (List.getElem_mem hjl)) hx]
    have ih := fun b => refIdle_l1 hi hn hu hx k (j + 1) b (by omega)
    simp only [hw]
    cases b with
    | true =>
      simp only [cond_true]
      rw [ih]
      simp
    | false =>
      simp only [cond_false]
      cases F42_crossroadsref03_Covers l[j].P x.P with
      | false =>
        simp only [cond_false]
        rw [ih]
        simp
      | true =>
        simp only [cond_true, Bool.true_and, Bool.false_or]
        by_cases h1 : (F41_crossroadsref07_Bounds l[j]).1 ≤ (F41_crossroadsref07_Bounds x).1
        · simp only [h1, decide_true, cond_true, Bool.true_and]
          rw [ih]
        · simp only [h1, decide_false, cond_false, Bool.false_and]
          rw [ih]

theorem refIdle_l2 {l : List TRule} (hn : l.length ≤ 1000) (hu : ∀ y ∈ l, InK .u32 y.P.A) : ∀ (rest pre : List TRule) (out : List Int), l = pre ++ rest → out.length + rest.length < 1099511627776 → F29_crossroadsref07_Idle_l2 l out pre.length rest = some (out ++ idG pre rest)
  | [], pre, out, _, _ => by rw [F29_crossroadsref07_Idle_l2]; simp [idG]
  | x :: rest, pre, out, he, hk => by
    rw [F29_crossroadsref07_Idle_l2]
    simp only [List.length_cons] at hk
    have hll := congrArg List.length he
    simp only [List.length_append, List.length_cons] at hll
    have hlen : (pre ++ [x]).length = pre.length + 1 := by simp
    have he' : l = (pre ++ [x]) ++ rest := by rw [he]; simp
    have d2 : decide (out.length < 1099511627776) = true := by simp; omega
    have ht : l.take pre.length = pre := by rw [he]; simp
    have hf : fuelUp 0 (pre.length : Int) = pre.length := fuel_nat (i := 0) (by omega) (by omega)
    have hl1 := refIdle_l1 (l := l) (x := x) (i := pre.length) (by omega) (by omega) hu (hu x (by rw [he]; simp)) pre.length 0 false (by omega)
    rw [ht] at hl1
    simp only [List.drop_zero, Bool.false_or] at hl1
    rw [hf]
    have hl1' : F29_crossroadsref07_Idle_l1 l pre.length x (F41_crossroadsref07_Bounds x).1 (F41_crossroadsref07_Bounds x).2 pre.length false 0 = some (pre.any fun y => F50_plist_Rule_hides y x) := hl1
    simp only [hl1']
    rw [idG]
    cases h : pre.any (fun y => F50_plist_Rule_hides y x) with
    | true =>
      simp only [cond_true, if_true, d2]
      rw [← hlen, refIdle_l2 hn hu rest (pre ++ [x]) _ he' (by simp; omega)]
      simp
    | false =>
      simp only [cond_false, Bool.false_eq_true, if_false]
      rw [← hlen, refIdle_l2 hn hu rest (pre ++ [x]) _ he' (by omega)]

theorem refIdle_eq {l : List TRule} (hn : l.length ≤ 1000) (hu : ∀ y ∈ l, InK .u32 y.P.A) : F29_crossroadsref07_Idle l = some (idG [] l) := by
  unfold F29_crossroadsref07_Idle
  have := refIdle_l2 hn hu l [] [] rfl (by simp; omega)
  simp only [List.length_nil, List.nil_append] at this
  rw [this]

/-! ### The same -/

theorem same_l1 {b : List TRule} : ∀ (rest pre : List TRule), b = pre ++ rest → F24_crossroadsref07_Same_l1 b pre.length rest = .ok ()
  | [], pre, _ => rfl
  | x :: rest, pre, he => by
    rw [F24_crossroadsref07_Same_l1]
    have hlen : (pre ++ [x]).length = pre.length + 1 := by simp
    have hx : b.getD pre.length default = x := by rw [he]; simp
    rw [hx]
    simp only [beq_self_eq_true, decide_true, Bool.and_true, cond_true]
    rw [← hlen]
    exact same_l1 rest (pre ++ [x]) (by rw [he]; simp)

theorem same_eq (a : List TRule) : F24_crossroadsref07_Same a a = true := by
  unfold F24_crossroadsref07_Same
  rw [show F24_crossroadsref07_Same_l1 a 0 a = .ok () from same_l1 a [] rfl]
  simp

theorem ints_l1 {b : List Int} : ∀ (rest pre : List Int), b = pre ++ rest → F28_crossroadsref05_Ints_l1 b pre.length rest = .ok ()
  | [], pre, _ => rfl
  | x :: rest, pre, he => by
    rw [F28_crossroadsref05_Ints_l1]
    have hlen : (pre ++ [x]).length = pre.length + 1 := by simp
    have hx : b.getD pre.length default = x := by rw [he]; simp
    rw [hx]
    simp only [decide_true, cond_true]
    rw [← hlen]
    exact ints_l1 rest (pre ++ [x]) (by rw [he]; simp)

theorem ints_eq (a : List Int) : F28_crossroadsref05_Ints a a = true := by
  unfold F28_crossroadsref05_Ints
  rw [show F28_crossroadsref05_Ints_l1 a 0 a = .ok () from ints_l1 a [] rfl]
  simp

/-! ### The laws -/

theorem ok_u32 {l : List TRule} (h : ∀ y ∈ l, TRule.ok y) : ∀ x ∈ l, InK .u32 x.P.A := fun x hx => (h x hx).2.1.1

theorem addW_len (l : List TRule) (x : TRule) : (addW l x).1.length ≤ 2 * l.length + 1 := by
  unfold addW
  split
  · split
    · simp
    · split
      · simp
      · unfold putW
        have h1 := List.length_filter_le (fun y : TRule => decide (y.Seq < x.Seq)) l
        have h2 := List.length_filter_le (fun y : TRule => decide (x.Seq < y.Seq)) l
        simp
        omega
  · simp

theorem dropW_len (l : List TRule) (s : Int) : (dropW l s).1.length ≤ l.length := by
  unfold dropW
  split
  · exact List.length_filter_le _ _
  · simp

theorem plistLists_true (l : List TRule) (x : TRule) (q : TPrefix) (ok0 : ∀ y ∈ l, TRule.ok y) (ok1 : TRule.ok x) (ok2 : TPrefix.ok q) : F7_crossroadslaw07_PlistLists l x q = some true := by
  unfold F7_crossroadslaw07_PlistLists
  by_cases hn : 210 < l.length
  · have d : decide (210 < (l.length : Int)) = true := by simp; omega
    rw [d]
    exact alive_true
  · have d : decide (210 < (l.length : Int)) = false := by simp; omega
    rw [d, rows_eq (by omega)]
    simp only [cond_false]
    cases hm : F18_crossroadsref07_MayAll l with
    | false => exact alive_true
    | true =>
      have hl := mayAll_ok (ok_u32 ok0) hm
      have d1 : decide (l.length < 1099511627776) = true := by simp; omega
      have a1 := addW_len l x
      have a2 := dropW_len l x.Seq
      simp only [d1, cond_true, add_eq hl (by omega) x, F13_crossroadslaw07_plain, refAdd_eq hl (by omega) ok1.2.1.1, drop_eq (show l.length < 1099511627776 by omega) hl.srt, refDrop_eq (show l.length < 1099511627776 by omega),
        eval_eq, refEval_eq (ok_u32 ok0) ok2.1, rows_eq (show (addW l x).1.length < 1099511627776 by omega), rows_eq (show (dropW l x.Seq).1.length < 1099511627776 by omega), same_eq, idle_eq (show l.length ≤ 1000 by omega),
        refIdle_eq (show l.length ≤ 1000 by omega) (ok_u32 ok0), ints_eq, alive_true, decide_true, beq_self_eq_true]

theorem hides_means {y x : TRule} {q : TPrefix} (hy : InK .u32 y.P.A) (hx : InK .u32 x.P.A) (hq : InK .u32 q.A) (my : F10_plist_May y = true) (h : F50_plist_Rule_hides y x = true) (k : F14_plist_Means x q = true) : F14_plist_Means y q = true := by
  unfold F50_plist_Rule_hides at h
  unfold F14_plist_Means at k ⊢
  simp only [Bool.and_eq_true, decide_eq_true_eq] at h k ⊢
  obtain ⟨h1, h2, h3⟩ := h
  obtain ⟨k1, k2, k3, k4⟩ := k
  exact ⟨my, (covers_C hy hq).2 (((covers_C hy hx).1 h1).trans ((covers_C hx hq).1 k2)), by omega, by omega⟩

theorem find_keep {l : List TRule} {q : TPrefix} (hq : InK .u32 q.A) (hl : LOk l) : ∀ (rest pre : List TRule), l = pre ++ rest → (∀ y ∈ pre, F14_plist_Means y q = false) → rest.find? (fun x => F14_plist_Means x q) = (keepG pre rest).find? (fun x => F14_plist_Means x q)
  | [], pre, _, _ => rfl
  | x :: rest, pre, he, hp => by
    have he' : l = (pre ++ [x]) ++ rest := by rw [he]; simp
    have hmx : x ∈ l := by rw [he]; simp
    cases hx : F14_plist_Means x q with
    | false =>
      have hp' : ∀ y ∈ pre ++ [x], F14_plist_Means y q = false := by
        intro y hy
        rcases List.mem_append.1 hy with hy | hy
        · exact hp y hy
        · rw [List.mem_singleton.1 hy]; exact hx
      have ih := find_keep hq hl rest (pre ++ [x]) he' hp'
      rw [keepG, List.find?_cons, hx]
      simp only
      split
      · exact ih
      · rw [List.find?_cons, hx]
        exact ih
    | true =>
      rw [keepG]
      have hno : ¬ pre.any (fun y => F50_plist_Rule_hides y x) = true := by
        intro k
        obtain ⟨y, hy, k⟩ := List.any_eq_true.1 k
        have hml : y ∈ l := by rw [he]; exact List.mem_append_left _ hy
        have := hides_means (hl.u32 y hml) (hl.u32 x hmx) hq (hl.may y hml) k hx
        rw [hp y hy] at this
        cases this
      rw [if_neg hno, List.find?_cons, List.find?_cons, hx]

theorem idleDrop_l1 : ∀ (rest pre K : List TRule), (K ++ rest).length < 1099511627776 → (K ++ rest).Pairwise (fun a b => a.Seq < b.Seq) → F5_crossroadslaw07_PlistIdle_l1 (K ++ rest) (idG pre rest) = some (.ok (K ++ keepG pre rest))
  | [], pre, K, _, _ => by rw [idG, keepG, F5_crossroadslaw07_PlistIdle_l1]
  | x :: rest, pre, K, hn, hs => by
    rw [idG, keepG]
    by_cases h : pre.any (fun y => F50_plist_Rule_hides y x) = true
    · rw [if_pos h, if_pos h, F5_crossroadslaw07_PlistIdle_l1, drop_eq hn hs]
      have hd : dropW (K ++ x :: rest) x.Seq = (K ++ rest, 0) := by
        unfold dropW
        rw [if_pos (List.any_eq_true.2 ⟨x, by simp, by simp⟩), filter_ne hs]
      rw [hd]
      simp only [decide_true, cond_true]
      refine idleDrop_l1 rest (pre ++ [x]) K (by simp at hn ⊢; omega) ?_
      rw [List.pairwise_append] at hs ⊢
      exact ⟨hs.1, (List.pairwise_cons.1 hs.2.1).2, fun a ha b hb => hs.2.2 a ha b (List.mem_cons_of_mem _ hb)⟩
    · rw [if_neg h, if_neg h]
      have e : ∀ r : List TRule, K ++ x :: r = (K ++ [x]) ++ r := fun r => by simp
      rw [e rest, e (keepG (pre ++ [x]) rest)]
      rw [e rest] at hn hs
      exact idleDrop_l1 rest (pre ++ [x]) (K ++ [x]) hn hs

theorem plistIdle_true (l : List TRule) (q : TPrefix) (ok0 : ∀ y ∈ l, TRule.ok y) (ok1 : TPrefix.ok q) : F5_crossroadslaw07_PlistIdle l q = some true := by
  unfold F5_crossroadslaw07_PlistIdle
  by_cases hn : 210 < l.length
  · have d : decide (210 < (l.length : Int)) = true := by simp; omega
    rw [d]
    exact alive_true
  · have d : decide (210 < (l.length : Int)) = false := by simp; omega
    rw [d, rows_eq (by omega)]
    simp only [cond_false]
    cases hm : F18_crossroadsref07_MayAll l with
    | false => exact alive_true
    | true =>
      have hl := mayAll_ok (ok_u32 ok0) hm
      have d1 : decide (l.length < 1099511627776) = true := by simp; omega
      have hi := idleDrop_l1 l [] [] (by simp; omega) hl.srt
      simp only [List.nil_append] at hi
      have hf := find_keep ok1.1 hl l [] rfl (fun y hy => (by cases hy))
      have he : evalW (keepG [] l) q = evalW l q := by unfold evalW; rw [hf]
      have hc := idG_len l []
      have hw : IntKind.i64.wrap ((l.length : Int) - ((idG [] l).length : Int)) = ((keepG [] l).length : Int) := by rw [wi64 (by omega) (by omega)]; omega
      simp only [d1, cond_true, idle_eq (show l.length ≤ 1000 by omega), hi, eval_eq, he, alive_true, beq_self_eq_true, decide_true, hw]

abbrev allX : TRule := ⟨65535, true, ⟨0, 0⟩, 0, 32⟩
theorem may_allX : F10_plist_May allX = true := by kernel_rfl
theorem means_allX (q : TPrefix) : F14_plist_Means allX q = F14_plist_Means ⟨1, false, ⟨0, 0⟩, 0, 32⟩ q := by
  have h2 : F10_plist_May ⟨1, false, ⟨0, 0⟩, 0, 32⟩ = true := by kernel_rfl
  unfold F14_plist_Means
  rw [may_allX, h2]
  rfl

theorem putW_mid {l : List TRule} {x : TRule} (hs : l.Pairwise fun a b => a.Seq < b.Seq) (hne : ∀ y ∈ l, y.Seq ≠ x.Seq) : ∃ A B, l = A ++ B ∧ putW l x = A ++ x :: B ∧ (A ++ x :: B).Pairwise (fun a b => a.Seq < b.Seq) := by
  refine ⟨l.filter (fun y => decide (y.Seq < x.Seq)), l.filter (fun y => decide (x.Seq < y.Seq)), ?_, rfl, ?_⟩
  · induction l with
    | nil => rfl
    | cons y l ih =>
      rw [List.pairwise_cons] at hs
      have hy := hne y List.mem_cons_self
      have ih := ih hs.2 (fun z hz => hne z (List.mem_cons_of_mem _ hz))
      rw [List.filter_cons, List.filter_cons]
      by_cases h : y.Seq < x.Seq
      · rw [if_pos (by simpa using h), if_neg (by simp; omega), List.cons_append, ← ih]
      · have e1 : l.filter (fun z => decide (z.Seq < x.Seq)) = [] := List.filter_eq_nil_iff.2 fun z hz => by have := hs.1 z hz; simp; omega
        rw [if_neg (by simpa using h), if_pos (by simp; omega), e1, List.nil_append]
        rw [e1, List.nil_append] at ih
        rw [← ih]
  · rw [List.pairwise_append, List.pairwise_cons]
    refine ⟨hs.filter _, ⟨fun b hb => ?_, hs.filter _⟩, fun a ha b hb => ?_⟩
    · simpa using (List.mem_filter.1 hb).2
    · have h1 : a.Seq < x.Seq := by simpa using (List.mem_filter.1 ha).2
      rcases List.mem_cons.1 hb with rfl | hb
      · exact h1
      · have h2 : x.Seq < b.Seq := by simpa using (List.mem_filter.1 hb).2
        omega

theorem addW_case (l : List TRule) (x : TRule) : (addW l x).2 ≠ 0 ∨ (addW l x = (putW l x, 0) ∧ F10_plist_May x = true ∧ ∀ y ∈ l, y.Seq ≠ x.Seq) := by
  unfold addW
  split
  · next hm =>
    split
    · left; simp
    · next ha =>
      split
      · left; simp
      · right
        refine ⟨rfl, hm, fun y hy k => ha (List.any_eq_true.2 ⟨y, hy, by simpa using k⟩)⟩
  · left; simp

theorem plistBack_true (l : List TRule) (x : TRule) (q : TPrefix) (ok0 : ∀ y ∈ l, TRule.ok y) (ok1 : TRule.ok x) (ok2 : TPrefix.ok q) : F6_crossroadslaw07_PlistBack l x q = some true := by
  unfold F6_crossroadslaw07_PlistBack
  by_cases hn : 150 < l.length
  · have d : decide (150 < (l.length : Int)) = true := by simp; omega
    rw [d]
    exact alive_true
  · have d : decide (150 < (l.length : Int)) = false := by simp; omega
    rw [d, rows_eq (by omega)]
    simp only [cond_false]
    cases hm : F18_crossroadsref07_MayAll l with
    | false => exact alive_true
    | true =>
      have hl := mayAll_ok (ok_u32 ok0) hm
      simp only [cond_true, add_eq hl (show l.length ≤ 1000 by omega)]
      -- behind all others
      have tail : (match addW l allX with
          | (c63a, c63b) => match evalW l q with
            | (c69a, c69b) => match evalW c63a q with
              | (c75a, c75b) => (bif decide (c63b = 0) then
                  (bif decide (q.N < 0) then some true else
                    (bif decide (32 < q.N) then some true else
                      (bif F14_plist_Means ⟨1, false, ⟨0, 0⟩, 0, 32⟩ q then
                        (bif decide (c69b = 0) then (bif c75a then some (decide (c75b = 65535)) else some false)
                         else (bif (c75a == c69a) then (bif decide (c75b = c69b) then some true else some false) else some false))
                       else some true)))
                 else some true)) = some true := by
        rcases addW_case l allX with k | ⟨k, _, kne⟩
        · have : decide ((addW l allX).2 = 0) = false := by simpa using k
          simp only [this, cond_false]
        · rw [k]
          have hp : putW l allX = l ++ [allX] := by
            have hlt : ∀ y ∈ l, y.Seq < allX.Seq := fun y hy => by
              have h1 := kne y hy
              have h2 := (rmay_seq (hl.may y hy)).2.1
              simp only at h1 ⊢
              omega
            unfold putW
            rw [List.filter_eq_self.2 (fun y hy => by have := hlt y hy; simpa using this), List.filter_eq_nil_iff.2 (fun y hy => by have := hlt y hy; simp at this ⊢; omega)]
          simp only [decide_true, cond_true]
          by_cases n1 : q.N < 0
          · simp [n1]
          · by_cases n2 : 32 < q.N
            · simp [n1, n2]
            · simp only [n1, n2, decide_false, cond_false]
              cases hM : F14_plist_Means ⟨1, false, ⟨0, 0⟩, 0, 32⟩ q with
              | false => rfl
              | true =>
                simp only [cond_true]
                rw [hp]
                unfold evalW
                rw [List.find?_append]
                cases hfd : l.find? (fun x => F14_plist_Means x q) with
                | some y =>
                  have hy := (rmay_seq (hl.may y (List.mem_of_find?_eq_some hfd))).1
                  have : decide (y.Seq = 0) = false := by simp; omega
                  simp only [Option.some_or, this, cond_false, beq_self_eq_true, decide_true, cond_true]
                | none =>
                  have : [allX].find? (fun x => F14_plist_Means x q) = some allX := by
                    rw [List.find?_cons, means_allX, hM]
                  simp only [Option.none_or, this, decide_true, cond_true]
      have tail' := tail
      rcases addW_case l x with k | ⟨k, _, kne⟩
      · have : decide ((addW l x).2 = 0) = false := by simpa using k
        simp only [this, cond_false]
        simp only [eval_eq, alive_true, cond_true]
        exact tail
      · obtain ⟨A, B, e, hp, hs⟩ := putW_mid hl.srt kne
        have hle := congrArg List.length e
        rw [List.length_append] at hle
        rw [k]
        have hpl : (putW l x).length = l.length + 1 := by rw [hp]; simp; omega
        have hdr : F21_plist_Drop (putW l x) x.Seq = some (l, 0) := by
          rw [drop_eq (by omega) (by rw [hp]; exact hs), hp]
          unfold dropW
          rw [if_pos (List.any_eq_true.2 ⟨x, by simp, by simp⟩), filter_ne hs, ← e]
        have hw : IntKind.i64.wrap ((l.length : Int) + 1) = ((putW l x).length : Int) := by rw [wi64 (by omega) (by omega)]; omega
        simp only [decide_true, cond_true, hdr, hw, rows_eq (show l.length < 1099511627776 by omega), same_eq]
        simp only [eval_eq, alive_true, cond_true]
        exact tail

end Go.Proofs.YtjcpkgnlnmajjaaGreatDoor.Abs
