/- The trie and the row in order: each operation of the one is the other's. Plain law: no program in sight. -/
import Derived.Test.YtakallenldpkiaaL5
set_option linter.unusedVariables false
set_option linter.unusedSimpArgs false
namespace Go.Proofs.Ytakallenldpkiaa.Abs
open Go

/-! ### The row -/

theorem F17_l1_eq {p : TPrefix} : ∀ (l out : List TEntry), out.length + l.length ≤ 1099511627776 → F17_crossroadsref06_Drop_l1 p out l = some (out ++ outP p l)
  | [], out, _ => by simp [F17_crossroadsref06_Drop_l1, outP]
  | x :: l, out, h => by
    simp only [List.length_cons] at h
    rw [F17_crossroadsref06_Drop_l1, peq]
    by_cases hx : x.P = p
    · simp only [hx, decide_true, cond_true]
      rw [F17_l1_eq l out (by omega)]
      simp [outP, hx]
    · have ho : out.length < 1099511627776 := by omega
      simp only [hx, ho, decide_true, decide_false, cond_true, cond_false]
      rw [F17_l1_eq l _ (by simp only [List.length_append, List.length_cons, List.length_nil]; omega)]
      simp [outP, hx]

theorem outP_len {p : TPrefix} {l : List TEntry} : (outP p l).length ≤ l.length := List.length_filter_le _ _
theorem outP_lt {p : TPrefix} : ∀ {l : List TEntry}, decide ((outP p l).length < l.length) = hasP p l
  | [] => rfl
  | x :: l => by
    have ih := outP_lt (p := p) (l := l)
    have h2 := outP_len (p := p) (l := l)
    by_cases hx : x.P = p
    · have e : outP p (x :: l) = outP p l := by simp [outP, hx]
      rw [e]
      have : hasP p (x :: l) = true := by simp [hasP, hx]
      rw [this, decide_eq_true_eq, List.length_cons]; omega
    · have e : outP p (x :: l) = x :: outP p l := by simp [outP, hx]
      have e2 : hasP p (x :: l) = hasP p l := by simp [hasP, hx]
      rw [e, e2, ← ih]
      simp

theorem F17_eq {p : TPrefix} {l : List TEntry} (h : l.length ≤ 1099511627776) : F17_crossroadsref06_Drop l p = some (outP p l, hasP p l) := by
  unfold F17_crossroadsref06_Drop
  rw [F17_l1_eq l [] (by simpa using h)]
  simp only [List.nil_append]
  rw [← outP_lt]
  simp

theorem srt_cons {x : TEntry} {l : List TEntry} : Srt (x :: l) ↔ (∀ y ∈ l, Ls x.P y.P) ∧ Srt l := List.pairwise_cons

theorem F18_put {p : TPrefix} {v : Int} : ∀ (l out : List TEntry), out.length + l.length ≤ 1099511627776 → F18_crossroadsref06_Set_l1 p v true out l = some (true, out ++ l)
  | [], out, _ => by simp [F18_crossroadsref06_Set_l1]
  | x :: l, out, h => by
    simp only [List.length_cons] at h
    have ho : out.length < 1099511627776 := by omega
    rw [F18_crossroadsref06_Set_l1]
    simp only [cond_true, ho, decide_true]
    rw [F18_put l _ (by simp only [List.length_append, List.length_cons, List.length_nil]; omega)]
    simp

theorem F18_l1_eq {p : TPrefix} {v : Int} : ∀ (l out : List TEntry), Srt l → out.length + l.length + 2 ≤ 1099511627776 →
    ∃ b o, F18_crossroadsref06_Set_l1 p v false out (outP p l) = some (b, o) ∧ (bif b then o else o ++ [⟨p, v⟩]) = out ++ insE p v l ∧ o.length ≤ out.length + l.length + 1
  | [], out, _, _ => ⟨false, out, by simp [F18_crossroadsref06_Set_l1, outP], rfl, by omega⟩
  | x :: l, out, hs, h => by
    obtain ⟨h1, h2⟩ := srt_cons.1 hs
    simp only [List.length_cons] at h
    by_cases hx : x.P = p
    · have e : outP p (x :: l) = outP p l := by simp [outP, hx]
      have hgt : ∀ y ∈ l, Ls p y.P := fun y hy => hx ▸ h1 y hy
      obtain ⟨b, o, e1, e2, e3⟩ := F18_l1_eq (p := p) (v := v) l out h2 (by omega)
      rw [e]
      refine ⟨b, o, e1, ?_, by simp only [List.length_cons]; omega⟩
      rw [e2, insE_all_gt hgt, insE, if_pos hx]
    · have e : outP p (x :: l) = x :: outP p l := by simp [outP, hx]
      have ho : out.length < 1099511627776 := by omega
      rw [e, F18_crossroadsref06_Set_l1]
      simp only [cond_false]
      by_cases hl : F29_crossroadsref03_Less p x.P = true
      · have ho2 : (out ++ [(⟨p, v⟩ : TEntry)]).length < 1099511627776 := by simp only [List.length_append, List.length_cons, List.length_nil]; omega
        have hgt : ∀ y ∈ l, y.P ≠ p := fun y hy => Ne.symm ((less_Ls.1 hl).trans (h1 y hy)).ne
        simp only [hl, ho, ho2, decide_true, cond_true]
        rw [outP_same hgt, F18_put l _ (by simp only [List.length_append, List.length_cons, List.length_nil]; omega)]
        refine ⟨true, _, rfl, ?_, by simp only [List.length_append, List.length_cons, List.length_nil]; omega⟩
        rw [insE, if_neg hx, if_pos hl]
        simp
      · have hl' : F29_crossroadsref03_Less p x.P = false := Bool.eq_false_iff.2 hl
        simp only [hl', ho, decide_true, cond_true, cond_false]
        obtain ⟨b, o, e1, e2, e3⟩ := F18_l1_eq (p := p) (v := v) l (out ++ [x]) h2 (by simp only [List.length_append, List.length_cons, List.length_nil]; omega)
        refine ⟨b, o, e1, ?_, by simp only [List.length_append, List.length_cons, List.length_nil] at *; omega⟩
        rw [e2, insE, if_neg hx, if_neg hl]
        simp

/-- What Set makes of the row, and its word. -/
def putE (m : List TEntry) (p : TPrefix) (v : Int) : List TEntry × Int :=
  bif F30_addr_May p then (bif hasP p m then (insE p v m, 0) else (bif decide (5000 ≤ (m.length : Int)) then (m, 8) else (insE p v m, 0))) else (m, 1)

theorem F18_eq {p : TPrefix} {v : Int} {m : List TEntry} (hp : InK .u32 p.A) (hs : Srt m) (h : m.length + 2 ≤ 1099511627776) : F18_crossroadsref06_Set m p v = some (putE m p v) := by
  unfold F18_crossroadsref06_Set putE
  rw [← may_same hp]
  cases F30_addr_May p
  · rfl
  · simp only [cond_true]
    rw [F17_eq (by omega)]
    simp only
    obtain ⟨b, o, e1, e2, e3⟩ := F18_l1_eq (p := p) (v := v) m [] hs (by simpa using h)
    have ho : o.length < 1099511627776 := by simp only [List.length_nil] at e3; omega
    rw [e1]
    rw [List.nil_append] at e2
    rw [← e2]
    generalize decide (5000 ≤ (m.length : Int)) = d
    cases hasP p m <;> cases b <;> cases d <;> simp only [cond_true, cond_false, ho, decide_true]

/-! ### Nested prefixes -/

def AllV (l : List TEntry) : Prop := ∀ e ∈ l, V e.P
def Chn (l : List TEntry) : Prop := l.Pairwise fun a b => a.P.N < b.P.N

theorem abP_chain {p : TPrefix} (hp : InK .u32 p.A) : ∀ {l : List TEntry}, Srt l → AllV l → Chn (abP p l)
  | [], _, _ => List.Pairwise.nil
  | x :: l, hs, hv => by
    obtain ⟨h1, h2⟩ := srt_cons.1 hs
    have ih := abP_chain hp h2 (fun e he => hv e (by simp [he]))
    by_cases hc : F34_addr_Covers x.P p = true
    · have e : abP p (x :: l) = x :: abP p l := by simp [abP, hc]
      rw [e]
      refine List.pairwise_cons.2 ⟨fun y hy => ?_, ih⟩
      obtain ⟨hy1, hy2⟩ := List.mem_filter.1 hy
      have c1 := (covers_C (hv x (by simp)).inK hp).1 hc
      have c2 := (covers_C (hv y (by simp [hy1])).inK hp).1 hy2
      apply Int.lt_of_not_ge
      intro hle
      have c3 := c2.comp c1 hle
      have hl := h1 y hy1
      exact hl.asymm (c3.ls hl.ne.symm)
    · have e : abP p (x :: l) = abP p l := by simp [abP, hc]
      rw [e]; exact ih

theorem chn_last {L : List TEntry} {e : TEntry} (h : Chn L) (he : e ∈ L) (hm : ∀ x ∈ L, x.P.N ≤ e.P.N) : L.getLast? = some e := by
  obtain ⟨A, B, rfl⟩ := List.append_of_mem he
  have : B = [] := by
    cases B with
    | nil => rfl
    | cons b B =>
      have h2 := (List.pairwise_append.1 h).2.1
      have h3 := (List.pairwise_cons.1 h2).1 b (by simp)
      have := hm b (by simp)
      omega
  subst this
  simp

theorem chn_max {L : List TEntry} {e : TEntry} (h : Chn L) (hl : L.getLast? = some e) : ∀ x ∈ L, x.P.N ≤ e.P.N := by
  obtain ⟨A, rfl⟩ : ∃ A, L = A ++ [e] := by
    rcases List.eq_nil_or_concat L with rfl | ⟨A, y, rfl⟩
    · cases hl
    · simp at hl; subst hl; exact ⟨A, by simp⟩
  intro x hx
  rcases List.mem_append.1 hx with hx | hx
  · have := (List.pairwise_append.1 h).2.2 x hx e (by simp)
    omega
  · simp only [List.mem_singleton] at hx
    subst hx; exact Int.le_refl _

theorem getI_last {α : Type} {L : List α} (h : L ≠ []) (hl : L.length < 1099511627776) : getI L (IntKind.i64.wrap ((L.length : Int) - 1)) = L.getLast? := by
  have h0 : 0 < L.length := List.length_pos_iff.2 h
  rw [wi64 (by omega) (by omega)]
  unfold getI
  rw [if_pos (by omega), List.getLast?_eq_getElem?]
  congr 1
  omega

/-- What Get finds. -/
def gotE (m : List TEntry) (p : TPrefix) : Int × Bool := match m.find? fun x => decide (x.P = p) with
  | some e => (e.V, true)
  | none => (0, false)

theorem F26_l1_eq {p : TPrefix} : ∀ (l : List TEntry), F26_crossroadsref06_Get_l1 p l = match l.find? fun x => decide (x.P = p) with
    | some e => .error (e.V, true)
    | none => .ok ()
  | [] => rfl
  | x :: l => by
    rw [F26_crossroadsref06_Get_l1, peq, F26_l1_eq l, List.find?_cons]
    cases decide (x.P = p) <;> rfl
theorem F26_eq {p : TPrefix} {m : List TEntry} : F26_crossroadsref06_Get m p = gotE m p := by
  unfold F26_crossroadsref06_Get gotE
  rw [F26_l1_eq]
  cases m.find? (fun x => decide (x.P = p)) <;> rfl

def hsA (a : Int) (l : List TEntry) : List TEntry := l.filter fun x => F27_crossroadsref03_Has x.P a
/-- What Find finds. -/
def fndE (m : List TEntry) (a : Int) : TEntry × Bool := match (hsA a m).getLast? with
  | some e => (e, true)
  | none => (⟨⟨0, 0⟩, 0⟩, false)

theorem V32 {a : Int} (h : InK .u32 a) : V ⟨a, 32⟩ := by
  obtain ⟨b, rfl, hb⟩ := u32_nat h
  exact ⟨b, 32, rfl, rfl, hb, by omega, by simp [Nat.mod_one]⟩

theorem hasA_eq {a : Int} (h : InK .u32 a) {l : List TEntry} (hv : AllV l) : hsA a l = abP ⟨a, 32⟩ l := by
  unfold hsA abP
  apply List.filter_congr
  intro x hx
  have hV := hv x hx
  unfold F34_addr_Covers
  rw [(may_V (p := ⟨a, 32⟩) h).2 (V32 h), has_same hV.inK h]
  have : x.P.N ≤ 32 := hV.le.2
  simp [this]

theorem F19_l1_eq {a : Int} : ∀ (l : List TEntry) (is : Bool) (best : TEntry), Chn (hsA a l) → (is = true → ∀ x ∈ hsA a l, best.P.N < x.P.N) →
    F19_crossroadsref06_Find_l1 a is best l = match (hsA a l).getLast? with
      | some e => (true, e)
      | none => (is, best)
  | [], is, best, _, _ => by simp [F19_crossroadsref06_Find_l1, hsA]
  | x :: l, is, best, hc, hb => by
    rw [F19_crossroadsref06_Find_l1]
    by_cases hx : F27_crossroadsref03_Has x.P a = true
    · have e : hsA a (x :: l) = x :: hsA a l := by simp [hsA, hx]
      rw [e] at hc hb ⊢
      obtain ⟨h1, h2⟩ := List.pairwise_cons.1 hc
      have ih := F19_l1_eq l true x h2 (fun _ y hy => h1 y hy)
      have e2 : (x :: hsA a l).getLast? = some ((hsA a l).getLast?.getD x) := by rw [List.getLast?_cons]
      rw [e2]
      have e3 : (match (hsA a l).getLast? with | some e => (true, e) | none => (true, x)) = (true, (hsA a l).getLast?.getD x) := by
        cases (hsA a l).getLast? <;> rfl
      simp only [hx, cond_true]
      cases is
      · simp only [cond_false]
        rw [ih, e3]
      · have := hb rfl x (by simp)
        simp only [cond_true, this, decide_true]
        rw [ih, e3]
    · have hx' : F27_crossroadsref03_Has x.P a = false := Bool.eq_false_iff.2 hx
      have e : hsA a (x :: l) = hsA a l := by simp [hsA, hx']
      rw [e] at hc hb ⊢
      simp only [hx', cond_false]
      exact F19_l1_eq l is best hc hb

theorem F19_eq {a : Int} {m : List TEntry} (h : InK .u32 a) (hs : Srt m) (hv : AllV m) : F19_crossroadsref06_Find m a = fndE m a := by
  unfold F19_crossroadsref06_Find fndE
  rw [F19_l1_eq m false _ (by rw [hasA_eq h hv]; exact abP_chain (p := ⟨a, 32⟩) h hs hv) (fun h => by cases h)]
  cases (hsA a m).getLast? <;> rfl

theorem F21_l1_eq {p : TPrefix} : ∀ (l out : List TEntry), out.length + l.length ≤ 1099511627776 → F21_crossroadsref06_Below_l1 p out l = some (out ++ l.filter fun e => F35_crossroadsref03_Covers p e.P)
  | [], out, _ => by simp [F21_crossroadsref06_Below_l1]
  | x :: l, out, h => by
    simp only [List.length_cons] at h
    have ho : out.length < 1099511627776 := by omega
    rw [F21_crossroadsref06_Below_l1]
    cases hx : F35_crossroadsref03_Covers p x.P
    · simp only [cond_false]
      rw [F21_l1_eq l out (by omega)]
      simp [hx]
    · simp only [cond_true, ho, decide_true]
      rw [F21_l1_eq l _ (by simp only [List.length_append, List.length_cons, List.length_nil]; omega)]
      simp [hx]

theorem F21_eq {p : TPrefix} {m : List TEntry} (hp : InK .u32 p.A) (hv : AllV m) (h : m.length ≤ 1099511627776) : F21_crossroadsref06_Below m p = some (beP p m) := by
  unfold F21_crossroadsref06_Below
  rw [F21_l1_eq m [] (by simpa using h)]
  simp only [List.nil_append]
  unfold beP
  congr 1
  apply List.filter_congr
  intro x hx
  exact (covers_same hp (hv x hx).inK).symm

theorem F23_l1_eq {p : TPrefix} {n : Int} : ∀ (l out : List TEntry), out.length + l.length ≤ 1099511627776 → F23_crossroadsref06_Above_l1 p n out l = some (out ++ l.filter fun e => decide (e.P.N = n) && F35_crossroadsref03_Covers e.P p)
  | [], out, _ => by simp [F23_crossroadsref06_Above_l1]
  | x :: l, out, h => by
    simp only [List.length_cons] at h
    have ho : out.length < 1099511627776 := by omega
    rw [F23_crossroadsref06_Above_l1]
    by_cases hn : x.P.N = n
    · cases hx : F35_crossroadsref03_Covers x.P p
      · simp only [hn, decide_true, cond_true, cond_false]
        rw [F23_l1_eq l out (by omega)]
        simp [hx]
      · simp only [hn, decide_true, cond_true, ho]
        rw [F23_l1_eq l _ (by simp only [List.length_append, List.length_cons, List.length_nil]; omega)]
        simp [hx, hn]
    · simp only [hn, decide_false, cond_false]
      rw [F23_l1_eq l out (by omega)]
      simp [hn]

theorem split_n {p : TPrefix} {k : Int} : ∀ {l : List TEntry}, Chn (l.filter fun e => F35_crossroadsref03_Covers e.P p) →
    (l.filter fun e => decide (e.P.N = k) && F35_crossroadsref03_Covers e.P p) ++ (l.filter fun e => decide (k + 1 ≤ e.P.N) && F35_crossroadsref03_Covers e.P p) = l.filter fun e => decide (k ≤ e.P.N) && F35_crossroadsref03_Covers e.P p
  | [], _ => rfl
  | x :: l, h => by
    cases hx : F35_crossroadsref03_Covers x.P p
    · have h' : Chn (l.filter fun e => F35_crossroadsref03_Covers e.P p) := by simpa [hx] using h
      have ih := split_n (k := k) h'
      simp only [List.filter_cons, hx, Bool.and_false, Bool.false_eq_true, if_false]
      exact ih
    · have h0 : Chn (x :: l.filter fun e => F35_crossroadsref03_Covers e.P p) := by simpa [hx] using h
      obtain ⟨h1, h2⟩ := List.pairwise_cons.1 h0
      have ih := split_n (k := k) h2
      simp only [List.filter_cons, hx, Bool.and_true, decide_eq_true_eq]
      by_cases h3 : x.P.N = k
      · rw [if_pos h3, if_neg (by omega), if_pos (by omega), List.cons_append, ih]
      · by_cases h4 : k + 1 ≤ x.P.N
        · have hnil : (l.filter fun e => decide (e.P.N = k) && F35_crossroadsref03_Covers e.P p) = [] := by
            rw [List.filter_eq_nil_iff]
            intro y hy q
            simp only [Bool.and_eq_true, decide_eq_true_eq] at q
            have := h1 y (List.mem_filter.2 ⟨hy, q.2⟩)
            omega
          rw [hnil, List.nil_append] at ih
          rw [if_neg h3, if_pos h4, if_pos (by omega), hnil, List.nil_append, ih]
        · rw [if_neg h3, if_neg h4, if_neg (by omega), ih]

theorem F23_l2_eq {p : TPrefix} {m : List TEntry} (hm : Chn (m.filter fun e => F35_crossroadsref03_Covers e.P p)) (hv : AllV m) : ∀ (fuel : Nat) (k : Nat) (out : List TEntry), k ≤ 33 → 33 - k < fuel →
    out.length + (33 - k) * m.length ≤ 1099511627776 → ∃ n, F23_crossroadsref06_Above_l2 m p fuel (k : Int) out = some (n, out ++ m.filter fun e => decide ((k : Int) ≤ e.P.N) && F35_crossroadsref03_Covers e.P p)
  | 0, k, out, _, h, _ => absurd h (by omega)
  | fuel + 1, k, out, hk, hf, hl => by
    unfold F23_crossroadsref06_Above_l2
    by_cases h : (k : Int) ≤ 32
    · simp only [h, decide_true, cond_true]
      obtain ⟨d, hd⟩ : ∃ d, 33 - k = d + 1 := ⟨32 - k, by omega⟩
      rw [hd, Nat.add_mul, Nat.one_mul] at hl
      have hnn : 0 ≤ d * m.length := Nat.zero_le _
      rw [F23_l1_eq m out (by omega)]
      simp only
      rw [show IntKind.i64.wrap ((k : Int) + 1) = ((k + 1 : Nat) : Int) by rw [wi64 (by omega) (by omega)]; omega]
      have hfl : (m.filter fun e => decide (e.P.N = (k : Int)) && F35_crossroadsref03_Covers e.P p).length ≤ m.length := List.length_filter_le _ _
      obtain ⟨n, e⟩ := F23_l2_eq hm hv fuel (k + 1) (out ++ m.filter fun e => decide (e.P.N = (k : Int)) && F35_crossroadsref03_Covers e.P p) (by omega) (by omega) (by
        rw [List.length_append, show 33 - (k + 1) = d by omega]; omega)
      refine ⟨n, e.trans ?_⟩
      rw [List.append_assoc, show (((k + 1 : Nat) : Int)) = (k : Int) + 1 by omega, split_n hm]
    · simp only [h, decide_false, cond_false]
      refine ⟨(k : Int), ?_⟩
      have hnil : (m.filter fun e => decide ((k : Int) ≤ e.P.N) && F35_crossroadsref03_Covers e.P p) = [] := by
        rw [List.filter_eq_nil_iff]
        intro y hy q
        simp only [Bool.and_eq_true, decide_eq_true_eq] at q
        have := (hv y hy).le
        omega
      rw [hnil, List.append_nil]

theorem cov_filter {p : TPrefix} {m : List TEntry} (hp : InK .u32 p.A) (hv : AllV m) : (m.filter fun e => F35_crossroadsref03_Covers e.P p) = abP p m := by
  unfold abP
  apply List.filter_congr
  intro x hx
  exact (covers_same (hv x hx).inK hp).symm

theorem F23_eq {p : TPrefix} {m : List TEntry} (hp : InK .u32 p.A) (hs : Srt m) (hv : AllV m) (h : 33 * m.length ≤ 1099511627776) : F23_crossroadsref06_Above m p = some (abP p m) := by
  unfold F23_crossroadsref06_Above
  obtain ⟨n, e⟩ := F23_l2_eq (p := p) (by rw [cov_filter hp hv]; exact abP_chain hp hs hv) hv ((33 - (0 : Int)).toNat + 1) 0 [] (by omega) (by omega) (by simpa using h)
  have e' : F23_crossroadsref06_Above_l2 m p ((33 - (0 : Int)).toNat + 1) 0 [] = _ := e
  rw [e']
  simp only [List.nil_append]
  congr 1
  rw [← cov_filter hp hv]
  apply List.filter_congr
  intro x hx
  have := (hv x hx).le.1
  simp [this]

/-! ### The same row -/

theorem eeq (a b : TEntry) : (decide (a.P.A = b.P.A) && (decide (a.P.N = b.P.N) && (decide (a.V = b.V) && true))) = decide (a = b) := by
  rw [Bool.eq_iff_iff]
  obtain ⟨⟨_, _⟩, _⟩ := a
  obtain ⟨⟨_, _⟩, _⟩ := b
  simp [and_assoc]

theorem F13_l1_refl {b : List TEntry} : ∀ (i : Nat) (l : List TEntry), l = b.drop i → F13_crossroadsref06_Same_l1 b i l = .ok ()
  | i, [], _ => rfl
  | i, x :: l, h => by
    rw [F13_crossroadsref06_Same_l1]
    have hb : b.getD i default = x := by
      have : (b.drop i)[0]? = some x := by rw [← h]; rfl
      rw [List.getElem?_drop] at this
      simp only [Nat.add_zero] at this
      rw [List.getD_eq_getElem?_getD, this]; rfl
    rw [hb]
    simp only [decide_true, Bool.and_true, Bool.true_and, cond_true]
    refine F13_l1_refl (i + 1) l ?_
    rw [← List.tail_drop, ← h, List.tail_cons]
theorem F13_refl (a : List TEntry) : F13_crossroadsref06_Same a a = true := by
  unfold F13_crossroadsref06_Same
  rw [F13_l1_refl 0 a rfl]
  simp

end Go.Proofs.Ytakallenldpkiaa.Abs
