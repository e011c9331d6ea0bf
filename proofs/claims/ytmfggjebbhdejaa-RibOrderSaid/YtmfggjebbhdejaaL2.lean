/- What counts of a table. Plain law: no program in sight. -/
import Derived.Test.YtmfggjebbhdejaaL1
set_option linter.unusedVariables false
set_option linter.unusedSimpArgs false
set_option maxRecDepth 100000
namespace Go.Proofs.Ytmfggjebbhdejaa.Abs
open Go

theorem getI_nat {α : Type} {L : List α} {i : Nat} {x : α} (h : L[i]? = some x) : getI L (i : Int) = some x := by
  unfold getI
  rw [if_pos (by omega)]
  simpa using h

/-! ### The lexicographic order -/
theorem lexlt_irrefl : ∀ a : List Int, lexlt a a = false
  | [] => rfl
  | x :: xs => by
    rw [lexlt]
    simp [lexlt_irrefl xs]

theorem lexlt_trans : ∀ {a b c : List Int}, lexlt a b = true → lexlt b c = true → lexlt a c = true
  | [], _, _, h, _ => by simp [lexlt] at h
  | _ :: _, [], _, h, _ => by simp [lexlt] at h
  | _ :: _, _ :: _, [], _, h => by simp [lexlt] at h
  | x :: xs, y :: ys, z :: zs, h, k => by
    rw [lexlt] at h k ⊢
    by_cases h1 : x < y
    · by_cases k1 : y < z
      · rw [if_pos (by omega)]
      · rw [if_neg k1] at k
        by_cases k2 : z < y
        · rw [if_pos k2] at k; cases k
        · rw [if_pos (by omega)]
    · rw [if_neg h1] at h
      by_cases h2 : y < x
      · rw [if_pos h2] at h; cases h
      · rw [if_neg h2] at h
        by_cases k1 : y < z
        · rw [if_pos (by omega)]
        · rw [if_neg k1] at k
          by_cases k2 : z < y
          · rw [if_pos k2] at k; cases k
          · rw [if_neg k2] at k
            rw [if_neg (by omega), if_neg (by omega)]
            exact lexlt_trans h k

theorem lexlt_total : ∀ {a b : List Int}, a.length = b.length → lexlt a b = false → lexlt b a = false → a = b
  | [], [], _, _, _ => rfl
  | [], _ :: _, h, _, _ => by simp at h
  | _ :: _, [], h, _, _ => by simp at h
  | x :: xs, y :: ys, hl, h, k => by
    rw [lexlt] at h k
    by_cases h1 : x < y
    · rw [if_pos h1] at h; cases h
    · rw [if_neg h1] at h
      by_cases h2 : y < x
      · rw [if_pos h2] at k; cases k
      · rw [if_neg h2] at h
        rw [if_neg h2, if_neg h1] at k
        have e : x = y := by omega
        rw [e, lexlt_total (by simpa using hl) h k]

theorem lexlt_asymm {a b : List Int} (h : lexlt a b = true) : lexlt b a = false := by
  cases k : lexlt b a with
  | false => rfl
  | true =>
    have := lexlt_trans h k
    rw [lexlt_irrefl] at this
    cases this

def Kl (a b : TCand) : Prop := lexlt (keyL a) (keyL b) = true
theorem Kl.trans {a b c : TCand} (h : Kl a b) (k : Kl b c) : Kl a c := lexlt_trans h k

def PLe (a b : TCand) : Prop := a.P.A < b.P.A ∨ (a.P.A = b.P.A ∧ a.P.N ≤ b.P.N)
def PLt (a b : TCand) : Prop := a.P.A < b.P.A ∨ (a.P.A = b.P.A ∧ a.P.N < b.P.N)
theorem PLt.ne {a b : TCand} (h : PLt a b) : a.P ≠ b.P := by
  intro e
  unfold PLt at h
  rw [e] at h
  omega
theorem PLe.cases {a b : TCand} (h : PLe a b) : a.P = b.P ∨ PLt a b := by
  unfold PLe PLt at *
  by_cases h1 : a.P.A = b.P.A
  · by_cases h2 : a.P.N = b.P.N
    · left
      cases ha : a.P; cases hb : b.P
      rw [ha, hb] at h1 h2
      simp only at h1 h2
      subst h1 h2
      rfl
    · right; omega
  · right; omega
theorem Kl.ple {a b : TCand} (h : Kl a b) : PLe a b := by
  unfold Kl keyL at h
  rw [lexlt] at h
  unfold PLe
  by_cases h1 : a.P.A < b.P.A
  · exact .inl h1
  · rw [if_neg h1] at h
    by_cases h2 : b.P.A < a.P.A
    · rw [if_pos h2] at h; cases h
    · rw [if_neg h2, lexlt] at h
      by_cases h3 : a.P.N < b.P.N
      · right; omega
      · rw [if_neg h3] at h
        by_cases h4 : b.P.N < a.P.N
        · rw [if_pos h4] at h; cases h
        · right; omega

theorem pairwise_adj {R : TCand → TCand → Prop} (tr : ∀ {a b c}, R a b → R b c → R a c) {l : List TCand} (h : ∀ (k : Nat) (a b : TCand), l[k]? = some a → l[k + 1]? = some b → R a b) : l.Pairwise R := by
  rw [List.pairwise_iff_getElem]
  intro i j hi hj hij
  have key : ∀ d i (hi : i < l.length) (hj : i + d + 1 < l.length), R l[i] l[i + d + 1] := by
    intro d
    induction d with
    | zero => intro i hi hj; exact h i _ _ (List.getElem?_eq_getElem hi) (List.getElem?_eq_getElem hj)
    | succ d ih =>
      intro i hi hj
      have h1 := ih i hi (by omega)
      have h2 := h (i + d + 1) _ _ (List.getElem?_eq_getElem (by omega)) (List.getElem?_eq_getElem (by omega : i + d + 1 + 1 < l.length))
      exact tr h1 h2
  have := key (j - i - 1) i hi (by omega)
  have e : i + (j - i - 1) + 1 = j := by omega
  simpa only [e] using this

/-! ### Tables that may be -/
structure TOk (t : TTable) : Prop where
  may : ∀ x ∈ t.L, MayP x
  srt : t.L.Pairwise Kl
  u32 : ∀ x ∈ t.L, InK .u32 x.P.A
  len : t.L.length ≤ 500

theorem refMay_l1 {t : TTable} (hu : ∀ x ∈ t.L, InK .u32 x.P.A) : ∀ (rest pre : List TCand), t.L = pre ++ rest → F12_crossroadsref25_MayAll_l1 t pre.length rest = .ok () → (∀ x ∈ rest, MayP x) ∧ (∀ (k : Nat) (a b : TCand), pre.length ≤ k + 1 → t.L[k]? = some a → t.L[k + 1]? = some b → Kl a b)
  | [], pre, he, _ => by
    refine ⟨fun x hx => (by cases hx), fun k a b hk ha hb => ?_⟩
    have := (List.getElem?_eq_some_iff.1 hb).1
    rw [he] at this
    simp at this
    omega
  | x :: rest, pre, he, h => by
    rw [F12_crossroadsref25_MayAll_l1] at h
    have hxm : x ∈ t.L := by rw [he]; simp
    cases hm : F9_crossroadsref25_May x with
    | false => simp [hm] at h
    | true =>
      simp only [hm, cond_true] at h
      have hx : t.L[pre.length]? = some x := by rw [he]; simp
      have he' : t.L = (pre ++ [x]) ++ rest := by rw [he]; simp
      have hlen : (pre ++ [x]).length = pre.length + 1 := by simp
      have hmx := (may9 (hu x hxm)).1 hm
      by_cases h0 : pre.length = 0
      · have d : decide (0 < (pre.length : Int)) = false := by simp only [decide_eq_false_iff_not]; omega
        rw [d] at h
        simp only [cond_false] at h
        rw [← hlen] at h
        obtain ⟨k1, k2⟩ := refMay_l1 hu rest (pre ++ [x]) he' h
        refine ⟨fun y hy => ?_, fun k a b hk ha hb => k2 k a b (by rw [hlen]; omega) ha hb⟩
        rcases List.mem_cons.1 hy with rfl | hy
        · exact hmx
        · exact k1 y hy
      · have d : decide (0 < (pre.length : Int)) = true := by simp only [decide_eq_true_eq]; omega
        rw [d] at h
        simp only [cond_true] at h
        cases hl : F15_crossroadsref25_Less (t.L.getD (pre.length - 1) default) x with
        | false =>
          have h' := h
          have e : F15_crossroadsref25_Less ⟨(t.L.getD (pre.length - 1) default).P, (t.L.getD (pre.length - 1) default).Proto, (t.L.getD (pre.length - 1) default).Inst, (t.L.getD (pre.length - 1) default).Dist, (t.L.getD (pre.length - 1) default).Metric, (t.L.getD (pre.length - 1) default).Tag, (t.L.getD (pre.length - 1) default).Leaked, (t.L.getD (pre.length - 1) default).From, (t.L.getD (pre.length - 1) default).Hops⟩ x = false := hl
          rw [e] at h'
          simp at h'
        | true =>
          have e : F15_crossroadsref25_Less ⟨(t.L.getD (pre.length - 1) default).P, (t.L.getD (pre.length - 1) default).Proto, (t.L.getD (pre.length - 1) default).Inst, (t.L.getD (pre.length - 1) default).Dist, (t.L.getD (pre.length - 1) default).Metric, (t.L.getD (pre.length - 1) default).Tag, (t.L.getD (pre.length - 1) default).Leaked, (t.L.getD (pre.length - 1) default).From, (t.L.getD (pre.length - 1) default).Hops⟩ x = true := hl
          rw [e] at h
          simp only [cond_true] at h
          rw [← hlen] at h
          obtain ⟨k1, k2⟩ := refMay_l1 hu rest (pre ++ [x]) he' h
          refine ⟨fun y hy => ?_, fun k a b hk ha hb => ?_⟩
          · rcases List.mem_cons.1 hy with rfl | hy
            · exact hmx
            · exact k1 y hy
          · by_cases hk2 : k + 1 = pre.length
            · have e2 : k = pre.length - 1 := by omega
              rw [hk2, hx] at hb
              injection hb with hb
              subst hb
              have hg : t.L.getD (pre.length - 1) default = a := by
                rw [← e2]
                simp [List.getD, ha]
              rw [hg, refLess_lex (hu a (List.mem_of_getElem? ha)) (hu x hxm)] at hl
              exact hl
            · exact k2 k a b (by rw [hlen]; omega) ha hb

theorem refMay_ok {t : TTable} (hu : ∀ x ∈ t.L, InK .u32 x.P.A) (h : F12_crossroadsref25_MayAll t = true) : TOk t := by
  unfold F12_crossroadsref25_MayAll at h
  by_cases hn : 500 < t.L.length
  · have d : decide (500 < (t.L.length : Int)) = true := by simp; omega
    simp [d] at h
  · have d : decide (500 < (t.L.length : Int)) = false := by simp; omega
    rw [d] at h
    simp only [cond_false] at h
    have h2 : F12_crossroadsref25_MayAll_l1 t 0 t.L = .ok () := by
      have key : ∀ (rest : List TCand) (i : Nat), F12_crossroadsref25_MayAll_l1 t i rest = .ok () ∨ F12_crossroadsref25_MayAll_l1 t i rest = .error false := by
        intro rest
        induction rest with
        | nil => intro i; exact .inl rfl
        | cons x rest ih =>
          intro i
          rw [F12_crossroadsref25_MayAll_l1]
          cases F9_crossroadsref25_May x
          · exact .inr rfl
          · simp only [cond_true]
            cases decide (0 < (i : Int))
            · simp only [cond_false]; exact ih _
            · simp only [cond_true]
              generalize F15_crossroadsref25_Less _ _ = bb
              cases bb
              · exact .inr rfl
              · simp only [cond_true]; exact ih _
      rcases key t.L 0 with k | k
      · exact k
      · rw [k] at h; cases h
    obtain ⟨k1, k2⟩ := refMay_l1 hu t.L [] rfl h2
    exact ⟨k1, pairwise_adj (R := Kl) (fun h k => Kl.trans h k) fun k a b ha hb => k2 k a b (by simp) ha hb, hu, by omega⟩

/-! ### What lives -/
theorem resolve_l1 {t : TTable} {h : THop} : ∀ (l : List TCand) (i : Nat) (at6 : Int), i + l.length = t.L.length → (at6 = -1 ∨ ∃ j : Nat, at6 = j ∧ j < t.L.length) → ∃ a, F38_rib_Resolve_l1 t h at6 i l = some a ∧ (a = -1 ∨ ∃ j : Nat, a = j ∧ j < t.L.length)
  | [], i, at6, _, ha => ⟨at6, by rw [F38_rib_Resolve_l1], ha⟩
  | x :: l, i, at6, hi, ha => by
    simp only [List.length_cons] at hi
    have ih := fun a ha => resolve_l1 (t := t) (h := h) l (i + 1) a (by omega) ha
    have hn : (i : Int) = -1 ∨ ∃ j : Nat, (i : Int) = j ∧ j < t.L.length := .inr ⟨i, rfl, by omega⟩
    rw [F38_rib_Resolve_l1]
    cases decide (x.Proto = 0)
    · exact ih _ ha
    · cases x.Leaked
      · simp only [cond_true, cond_false]
        cases F37_addr_Has x.P h.Gate
        · exact ih _ ha
        · simp only [cond_true]
          rcases ha with ha | ⟨j, ha, hj⟩
          · subst ha
            exact ih _ hn
          · subst ha
            have d : decide ((j : Int) < 0) = false := by simp
            rw [d]
            simp only [cond_false]
            rw [getI_nat (List.getElem?_eq_getElem hj)]
            simp only
            cases decide (t.L[j].P.N < x.P.N)
            · exact ih _ (.inr ⟨j, rfl, hj⟩)
            · exact ih _ hn
      · exact ih _ ha

theorem resolve_some {t : TTable} (hT : ∀ c ∈ t.L, 1 ≤ c.Hops.length) (h : THop) : ∃ r, F38_rib_Resolve t h = some r := by
  unfold F38_rib_Resolve
  cases decide (h.Gate = 0)
  · simp only [cond_false]
    obtain ⟨a, e, ha⟩ := resolve_l1 (t := t) (h := h) t.L 0 (-1) (by omega) (.inl rfl)
    rw [e]
    simp only
    rcases ha with rfl | ⟨j, rfl, hj⟩
    · exact ⟨_, rfl⟩
    · have d : decide ((j : Int) < 0) = false := by simp
      rw [d, getI_nat (List.getElem?_eq_getElem hj)]
      simp only [cond_false]
      have hh := hT _ (List.getElem_mem hj)
      have e0 : getI t.L[j].Hops 0 = some (t.L[j].Hops[0]'(by omega)) := getI_nat (i := 0) (List.getElem?_eq_getElem (by omega))
      rw [e0]
      exact ⟨_, rfl⟩
  · exact ⟨_, rfl⟩

theorem lives_l1 {t : TTable} (hT : ∀ c ∈ t.L, 1 ≤ c.Hops.length) : ∀ (l out : List THop), out.length + l.length < 1099511627776 → ∃ o, F19_rib_Lives_l1 t out l = some o ∧ o.length ≤ out.length + l.length
  | [], out, _ => ⟨out, by rw [F19_rib_Lives_l1], by simp⟩
  | x :: l, out, hn => by
    simp only [List.length_cons] at hn
    rw [F19_rib_Lives_l1]
    obtain ⟨⟨r, b⟩, hr⟩ := resolve_some hT x
    rw [hr]
    simp only
    cases b with
    | false =>
      obtain ⟨o, h1, h2⟩ := lives_l1 hT l out (by omega)
      exact ⟨o, h1, by simp only [List.length_cons]; omega⟩
    | true =>
      have d : decide (out.length < 1099511627776) = true := by simp; omega
      rw [d]
      simp only [cond_true]
      obtain ⟨o, h1, h2⟩ := lives_l1 hT l (out ++ [r]) (by simp; omega)
      exact ⟨o, h1, by simp at h2 ⊢; omega⟩

/-- One that lives: the same but for its hops. -/
structure Lv (x c : TCand) : Prop where
  P : x.P = c.P
  rank : rankL x = rankL c
  hops : x.Hops.length ≤ c.Hops.length

theorem lives_some {t : TTable} (hT : ∀ c ∈ t.L, 1 ≤ c.Hops.length) {c : TCand} (hc : c.Hops.length < 1000) : ∃ x ok, F19_rib_Lives t c = some (x, ok) ∧ (ok = true → Lv x c) := by
  unfold F19_rib_Lives
  cases decide (c.Proto = 1)
  · exact ⟨c, true, rfl, fun _ => ⟨rfl, rfl, Nat.le_refl _⟩⟩
  · cases hl : c.Leaked
    · simp only [cond_true, cond_false]
      obtain ⟨o, h1, h2⟩ := lives_l1 hT c.Hops [] (by simp; omega)
      rw [h1]
      simp only
      cases decide ((o.length : Int) = 0)
      · refine ⟨_, true, rfl, fun _ => ⟨rfl, ?_, by simpa using h2⟩⟩
        unfold rankL lkN
        rw [hl]
      · exact ⟨_, false, rfl, fun h => by cases h⟩
    · exact ⟨c, true, rfl, fun _ => ⟨rfl, rfl, Nat.le_refl _⟩⟩

structure LivS (t : TTable) (l liv : List TCand) : Prop where
  eq : livesL t l = some liv
  mem : ∀ x ∈ liv, ∃ c ∈ l, F19_rib_Lives t c = some (x, true) ∧ Lv x c
  cov : ∀ c ∈ l, ∀ x, F19_rib_Lives t c = some (x, true) → x ∈ liv
  srt : l.Pairwise PLe → liv.Pairwise PLe
  len : liv.length ≤ l.length

theorem livesL_some {t : TTable} (hT : ∀ c ∈ t.L, 1 ≤ c.Hops.length) : ∀ (l : List TCand), (∀ c ∈ l, c.Hops.length < 1000) → ∃ liv, LivS t l liv
  | [], _ => ⟨[], rfl, fun x hx => (by cases hx), fun c hc => (by cases hc), fun _ => .nil, Nat.le_refl _⟩
  | c :: l, hl => by
    obtain ⟨liv, h⟩ := livesL_some hT l fun y hy => hl y (List.mem_cons_of_mem _ hy)
    obtain ⟨x, ok, e, hx⟩ := lives_some hT (hl c List.mem_cons_self)
    refine ⟨bif ok then x :: liv else liv, by rw [livesL, e]; simp only; rw [h.eq], fun y hy => ?_, fun d hd y hy => ?_, fun hs => ?_, ?_⟩
    · cases ok with
      | false =>
        obtain ⟨d, h1, h2⟩ := h.mem y hy
        exact ⟨d, List.mem_cons_of_mem _ h1, h2⟩
      | true =>
        rcases List.mem_cons.1 hy with rfl | hy
        · exact ⟨c, List.mem_cons_self, e, hx rfl⟩
        · obtain ⟨d, h1, h2⟩ := h.mem y hy
          exact ⟨d, List.mem_cons_of_mem _ h1, h2⟩
    · rcases List.mem_cons.1 hd with rfl | hd
      · rw [e] at hy
        injection hy with hy
        injection hy with h1 h2
        subst h1 h2
        exact List.mem_cons_self
      · have := h.cov d hd y hy
        cases ok
        · exact this
        · exact List.mem_cons_of_mem _ this
    · rw [List.pairwise_cons] at hs
      cases ok with
      | false => exact h.srt hs.2
      | true =>
        refine List.pairwise_cons.2 ⟨fun y hy => ?_, h.srt hs.2⟩
        obtain ⟨d, h1, _, h2⟩ := h.mem y hy
        have := hs.1 d h1
        unfold PLe at this ⊢
        rw [(hx rfl).P, h2.P]
        exact this
    · have := h.len
      cases ok
      · simp only [cond_false, List.length_cons]; omega
      · simp only [cond_true, List.length_cons]; omega

/-! ### The best of each prefix -/
theorem better_irrefl (a : TCand) : F16_rib_Better a a = false := by rw [better_lex]; exact lexlt_irrefl _
theorem better_trans {a b c : TCand} (h : F16_rib_Better a b = true) (k : F16_rib_Better b c = true) : F16_rib_Better a c = true := by rw [better_lex] at *; exact lexlt_trans h k

structure AllS (pre row : List TCand) : Prop where
  mem : ∀ e ∈ row, e ∈ pre
  cov : ∀ d ∈ pre, ∃ e ∈ row, e.P = d.P ∧ F16_rib_Better d e = false
  srt : row.Pairwise PLt

theorem all_l1 : ∀ (l pre row : List TCand), AllS pre row → (pre ++ l).Pairwise PLe → row.length ≤ pre.length → pre.length + l.length ≤ 1000 → ∃ all, F36_rib_All_l1 row l = some all ∧ AllS (pre ++ l) all ∧ all.length ≤ pre.length + l.length
  | [], pre, row, h, _, hn, _ => ⟨row, by rw [F36_rib_All_l1], by rw [List.append_nil]; exact h, by simpa using hn⟩
  | x :: l, pre, row, h, hs, hn, hl => by
    have he : pre ++ x :: l = (pre ++ [x]) ++ l := by simp
    simp only [List.length_cons] at hl
    have next : ∀ row', AllS (pre ++ [x]) row' → row'.length ≤ pre.length + 1 → ∃ all, F36_rib_All_l1 row' l = some all ∧ AllS (pre ++ x :: l) all ∧ all.length ≤ pre.length + (l.length + 1) := by
      intro row' h' hn'
      obtain ⟨all, e, k1, k2⟩ := all_l1 l (pre ++ [x]) row' h' (by rw [← he]; exact hs) (by simpa using hn') (by simp; omega)
      exact ⟨all, e, by rw [he]; exact k1, by simp at k2; omega⟩
    have hpx : ∀ d ∈ pre, PLe d x := by
      rw [List.pairwise_append] at hs
      exact fun d hd => hs.2.2 d hd x List.mem_cons_self
    have d0 : decide (row.length < 1099511627776) = true := by simp; omega
    have app : (∀ e ∈ row, PLt e x) → AllS (pre ++ [x]) (row ++ [x]) := fun hlt =>
      ⟨fun e hm => by
        rcases List.mem_append.1 hm with hm | hm
        · exact List.mem_append_left _ (h.mem e hm)
        · exact List.mem_append_right _ hm,
       fun d hd => by
        rcases List.mem_append.1 hd with hd | hd
        · obtain ⟨e, h1, h2⟩ := h.cov d hd
          exact ⟨e, List.mem_append_left _ h1, h2⟩
        · rw [List.mem_singleton.1 hd]
          exact ⟨x, by simp, rfl, better_irrefl x⟩,
       by
        rw [List.pairwise_append]
        exact ⟨h.srt, List.pairwise_singleton _ _, fun a ha b hb => by rw [List.mem_singleton.1 hb]; exact hlt a ha⟩⟩
    rw [F36_rib_All_l1]
    rcases List.eq_nil_or_concat row with rfl | ⟨r', y, hrow⟩
    · have d : decide (IntKind.i64.wrap ((([] : List TCand).length : Int) - 1) < 0) = true := by decide
      rw [d, d0]
      simp only [cond_true]
      exact next _ (app fun e hm => by cases hm) (by simp)
    · rw [List.concat_eq_append] at hrow
      subst hrow
      have hw : IntKind.i64.wrap (((r' ++ [y]).length : Int) - 1) = ((r'.length : Nat) : Int) := by
        have : (r' ++ [y]).length = r'.length + 1 := by simp
        rw [this, wi64 (by omega) (by omega)]
        omega
      have d : decide (((r'.length : Nat) : Int) < 0) = false := by simp
      have hg : getI (r' ++ [y]) ((r'.length : Nat) : Int) = some y := getI_nat (by simp)
      have hy : y ∈ pre := h.mem y (by simp)
      have hsr := h.srt
      rw [List.pairwise_append] at hsr
      have hry : ∀ e ∈ r', PLt e y := fun e hm => hsr.2.2 e hm y (by simp)
      simp only [hw, d, hg, cond_false]
      rcases (hpx y hy).cases with hP | hP
      · have dP : (decide (y.P.A = x.P.A) && (decide (y.P.N = x.P.N) && true)) = true := by rw [hP]; simp
        simp only [dP, cond_true]
        cases hb : F16_rib_Better x y with
        | true =>
          simp only [cond_true, Int.toNat_natCast]
          have hset : (r' ++ [y]).set r'.length x = r' ++ [x] := by simp
          rw [hset]
          refine next _ ⟨fun e hm => ?_, fun d hd => ?_, ?_⟩ (by simp at hn ⊢; omega)
          · rcases List.mem_append.1 hm with hm | hm
            · exact List.mem_append_left _ (h.mem e (List.mem_append_left _ hm))
            · exact List.mem_append_right _ hm
          · rcases List.mem_append.1 hd with hd | hd
            · obtain ⟨e, h1, h2, h3⟩ := h.cov d hd
              rcases List.mem_append.1 h1 with h1 | h1
              · exact ⟨e, List.mem_append_left _ h1, h2, h3⟩
              · rw [List.mem_singleton.1 h1] at h2 h3
                refine ⟨x, by simp, by rw [← hP]; exact h2, ?_⟩
                cases k : F16_rib_Better d x with
                | false => rfl
                | true => rw [better_trans k hb] at h3; cases h3
            · rw [List.mem_singleton.1 hd]
              exact ⟨x, by simp, rfl, better_irrefl x⟩
          · rw [List.pairwise_append]
            refine ⟨hsr.1, List.pairwise_singleton _ _, fun a ha b hb => ?_⟩
            rw [List.mem_singleton.1 hb]
            have := hry a ha
            unfold PLt at this ⊢
            rw [← hP]
            exact this
        | false =>
          simp only [cond_false]
          refine next _ ⟨fun e hm => List.mem_append_left _ (h.mem e hm), fun d hd => ?_, h.srt⟩ (by omega)
          rcases List.mem_append.1 hd with hd | hd
          · exact h.cov d hd
          · rw [List.mem_singleton.1 hd]
            exact ⟨y, by simp, hP, hb⟩
      · have dP : (decide (y.P.A = x.P.A) && (decide (y.P.N = x.P.N) && true)) = false := by
          rw [Bool.eq_false_iff]
          intro k
          simp at k
          unfold PLt at hP
          omega
        simp only [dP, d0, cond_true, cond_false]
        refine next _ (app fun e hm => ?_) (by simp at hn ⊢; omega)
        rcases List.mem_append.1 hm with hm | hm
        · have := hry e hm
          unfold PLt at this hP ⊢
          omega
        · rw [List.mem_singleton.1 hm]
          exact hP

structure Counts (t : TTable) (liv all : List TCand) : Prop where
  lv : LivS t t.L liv
  eq : allO t = some all
  al : AllS liv all

theorem counts {t : TTable} (h : TOk t) : ∃ liv all, Counts t liv all := by
  have hT : ∀ c ∈ t.L, 1 ≤ c.Hops.length := fun c hc => by have := (h.may c hc).hops; omega
  obtain ⟨liv, hl⟩ := livesL_some hT t.L fun c hc => by have := (h.may c hc).hops; omega
  have hs := hl.srt (h.srt.imp fun h => h.ple)
  have hlen := hl.len
  have hle := h.len
  obtain ⟨all, e, k1, k2⟩ := all_l1 liv [] [] ⟨fun e h => (by cases h), fun d h => (by cases h), .nil⟩ (by simpa using hs) (by simp) (by simp; omega)
  refine ⟨liv, all, hl, ?_, by simpa using k1⟩
  unfold allO
  rw [hl.eq]
  exact e

theorem all_one {all : List TCand} (h : all.Pairwise PLt) {a b : TCand} (ha : a ∈ all) (hb : b ∈ all) (e : a.P = b.P) : a = b := by
  obtain ⟨i, hi, rfl⟩ := List.getElem_of_mem ha
  obtain ⟨j, hj, rfl⟩ := List.getElem_of_mem hb
  rcases Nat.lt_trichotomy i j with q | q | q
  · exact absurd e (List.pairwise_iff_getElem.1 h i j hi hj q).ne
  · subst q; rfl
  · exact absurd e.symm (List.pairwise_iff_getElem.1 h j i hj hi q).ne

/-! ### Best, Find -/
theorem idx40_l1 (f : TCand → Bool) : ∀ (l : List TCand) (i : Nat), (∃ pre x r, l = pre ++ x :: r ∧ f x = true ∧ F40_slices_IndexFunc_l1 f i l = .error ((i + pre.length : Nat) : Int)) ∨ ((∀ y ∈ l, f y = false) ∧ F40_slices_IndexFunc_l1 f i l = .ok ())
  | [], i => .inr ⟨fun y hy => (by cases hy), rfl⟩
  | x :: l, i => by
    rw [F40_slices_IndexFunc_l1]
    cases hx : f x with
    | true => exact .inl ⟨[], x, l, rfl, hx, by simp⟩
    | false =>
      simp only [cond_false]
      rcases idx40_l1 f l (i + 1) with ⟨pre, y, r, e, h1, h3⟩ | ⟨h1, h2⟩
      · refine .inl ⟨x :: pre, y, r, by rw [e]; rfl, h1, ?_⟩
        rw [h3]
        simp only [List.length_cons]
        rw [show i + 1 + pre.length = i + (pre.length + 1) by omega]
      · refine .inr ⟨fun z hz => ?_, h2⟩
        rcases List.mem_cons.1 hz with rfl | hz
        · exact hx
        · exact h1 z hz

abbrev zC : TCand := ⟨⟨0, 0⟩, 0, 0, 0, 0, 0, false, 0, []⟩

theorem peq (a b : TPrefix) : (decide (a.A = b.A) && (decide (a.N = b.N) && true)) = decide (a = b) := by
  rw [Bool.eq_iff_iff]
  obtain ⟨_, _⟩ := a
  obtain ⟨_, _⟩ := b
  simp

theorem best_spec {t : TTable} {all : List TCand} (hall : allO t = some all) (p : TPrefix) : (∃ e ∈ all, e.P = p ∧ F21_rib_Best t p = some (e, true)) ∨ ((∀ e ∈ all, e.P ≠ p) ∧ F21_rib_Best t p = some (zC, false)) := by
  unfold F21_rib_Best F40_slices_IndexFunc
  rw [hall]
  simp only
  rcases idx40_l1 (fun y0 => F41_rib_Best_1 y0 p) all 0 with ⟨pre, x, r, e, h1, h3⟩ | ⟨h1, h2⟩
  · left
    unfold F41_rib_Best_1 at h1
    rw [peq] at h1
    refine ⟨x, by rw [e]; simp, by simpa using h1, ?_⟩
    rw [h3]
    simp only [Nat.zero_add]
    have d : decide (((pre.length : Nat) : Int) < 0) = false := by simp
    rw [d, getI_nat (x := x) (by rw [e]; simp)]
    rfl
  · right
    rw [h2]
    refine ⟨fun e he k => ?_, rfl⟩
    have := h1 e he
    unfold F41_rib_Best_1 at this
    rw [peq] at this
    simp at this
    exact this k

theorem find_l1 (a : Int) : ∀ (l : List TCand) (found : Bool) (best : TCand), ∃ f b, F18_rib_Find_l1 a found best l = some (f, b) ∧ (f = true → (b = best ∧ found = true) ∨ (b ∈ l ∧ F37_addr_Has b.P a = true)) ∧ (found = true → f = true ∧ best.P.N ≤ b.P.N) ∧ (∀ x ∈ l, F37_addr_Has x.P a = true → f = true ∧ x.P.N ≤ b.P.N)
  | [], found, best => ⟨found, best, by rw [F18_rib_Find_l1], fun h => .inl ⟨rfl, h⟩, fun h => ⟨h, Int.le_refl _⟩, fun x hx => (by cases hx)⟩
  | x :: l, found, best => by
    rw [F18_rib_Find_l1]
    have old : F37_addr_Has x.P a = false ∨ (found = true ∧ x.P.N ≤ best.P.N) → ∃ f b, F18_rib_Find_l1 a found best l = some (f, b) ∧ (f = true → (b = best ∧ found = true) ∨ (b ∈ x :: l ∧ F37_addr_Has b.P a = true)) ∧ (found = true → f = true ∧ best.P.N ≤ b.P.N) ∧ (∀ y ∈ x :: l, F37_addr_Has y.P a = true → f = true ∧ y.P.N ≤ b.P.N) := by
      intro hno
      obtain ⟨f, b, h1, h2, h3, h4⟩ := find_l1 a l found best
      refine ⟨f, b, h1, fun h => (h2 h).imp (fun h => h) fun h => ⟨List.mem_cons_of_mem _ h.1, h.2⟩, h3, fun y hy hh => ?_⟩
      rcases List.mem_cons.1 hy with rfl | hy
      · rcases hno with hno | ⟨hf, hle⟩
        · rw [hno] at hh; cases hh
        · have := h3 hf
          exact ⟨this.1, by omega⟩
      · exact h4 y hy hh
    have new : F37_addr_Has x.P a = true → (found = true → best.P.N ≤ x.P.N) → ∃ f b, F18_rib_Find_l1 a true x l = some (f, b) ∧ (f = true → (b = best ∧ found = true) ∨ (b ∈ x :: l ∧ F37_addr_Has b.P a = true)) ∧ (found = true → f = true ∧ best.P.N ≤ b.P.N) ∧ (∀ y ∈ x :: l, F37_addr_Has y.P a = true → f = true ∧ y.P.N ≤ b.P.N) := by
      intro hx hbest
      obtain ⟨f, b, h1, h2, h3, h4⟩ := find_l1 a l true x
      have h5 := h3 rfl
      refine ⟨f, b, h1, fun h => .inr ?_, fun hf => ⟨h5.1, by have := hbest hf; omega⟩, fun y hy hh => ?_⟩
      · rcases h2 h with ⟨rfl, _⟩ | h
        · exact ⟨List.mem_cons_self, hx⟩
        · exact ⟨List.mem_cons_of_mem _ h.1, h.2⟩
      · rcases List.mem_cons.1 hy with rfl | hy
        · exact h5
        · exact h4 y hy hh
    cases hx : F37_addr_Has x.P a with
    | false => exact old (.inl hx)
    | true =>
      cases hf : found with
      | false =>
        rw [hf] at new
        exact new hx fun h => by cases h
      | true =>
        rw [hf] at new old
        rw [cond_true, cond_true]
        by_cases hlt : best.P.N < x.P.N
        · have d : decide (best.P.N < x.P.N) = true := by simpa using hlt
          rw [d]
          exact new hx fun _ => by omega
        · have d : decide (best.P.N < x.P.N) = false := by simpa using hlt
          rw [d]
          exact old (.inr ⟨rfl, by omega⟩)

/-! ### The same -/
theorem hops_l1 {b : List THop} : ∀ (rest pre : List THop), b = pre ++ rest → F42_crossroadsref25_Hops_l1 b pre.length rest = .ok ()
  | [], pre, _ => rfl
  | x :: rest, pre, he => by
    rw [F42_crossroadsref25_Hops_l1]
    have hlen : (pre ++ [x]).length = pre.length + 1 := by simp
    have hx : b.getD pre.length default = x := by rw [he]; simp
    rw [hx]
    simp only [decide_true, Bool.and_true, cond_true]
    rw [← hlen]
    exact hops_l1 rest (pre ++ [x]) (by rw [he]; simp)
theorem same_refl (c : TCand) : F22_crossroadsref25_Same c c = true := by
  unfold F22_crossroadsref25_Same F42_crossroadsref25_Hops
  rw [show F42_crossroadsref25_Hops_l1 c.Hops 0 c.Hops = .ok () from hops_l1 c.Hops [] rfl]
  simp
theorem rowsR_l1 {b : List TCand} : ∀ (rest pre : List TCand), b = pre ++ rest → F24_crossroadsref25_Rows_l1 b pre.length rest = .ok ()
  | [], pre, _ => rfl
  | x :: rest, pre, he => by
    rw [F24_crossroadsref25_Rows_l1]
    have hlen : (pre ++ [x]).length = pre.length + 1 := by simp
    have hx : b.getD pre.length default = x := by rw [he]; simp
    rw [hx]
    have e : F22_crossroadsref25_Same x ⟨x.P, x.Proto, x.Inst, x.Dist, x.Metric, x.Tag, x.Leaked, x.From, x.Hops⟩ = true := same_refl x
    simp only [e, cond_true]
    rw [← hlen]
    exact rowsR_l1 rest (pre ++ [x]) (by rw [he]; simp)
theorem rows_refl (l : List TCand) : F24_crossroadsref25_Rows l l = true := by
  unfold F24_crossroadsref25_Rows
  rw [show F24_crossroadsref25_Rows_l1 l 0 l = .ok () from rowsR_l1 l [] rfl]
  simp

/-! ### RibBest -/
theorem best_l1 {t : TTable} {a : Int} {c : TCand} {ok : Bool} : ∀ (l : List TCand), (∀ d ∈ l, ∃ x b, F19_rib_Lives t d = some (x, b) ∧ (b = true → F20_crossroadsref03_Has x.P a = true → ok = true ∧ ¬ c.P.N < x.P.N ∧ (x.P = c.P → F16_rib_Better x c = false))) → F4_crossroadslaw25_RibBest_l1 t a c ok l = some (.ok ok)
  | [], _ => by rw [F4_crossroadslaw25_RibBest_l1]
  | d :: l, h => by
    have ih := best_l1 (ok := ok) l fun y hy => h y (List.mem_cons_of_mem _ hy)
    obtain ⟨x, b, e, hx⟩ := h d List.mem_cons_self
    rw [F4_crossroadslaw25_RibBest_l1, e]
    simp only
    cases b with
    | false => exact ih
    | true =>
      simp only [cond_true]
      cases hh : F20_crossroadsref03_Has x.P a with
      | false => exact ih
      | true =>
        obtain ⟨h1, h2, h3⟩ := hx rfl hh
        subst h1
        have d1 : decide (c.P.N < x.P.N) = false := by simpa using h2
        simp only [cond_true, d1, cond_false, peq]
        by_cases hP : x.P = c.P
        · simp only [hP, decide_true, cond_true, h3 hP, cond_false]
          exact ih
        · simp only [hP, decide_false, cond_false]
          exact ih

theorem has_n {p q : TPrefix} {a : Int} (hp : F37_addr_Has p a = true) (hq : F37_addr_Has q a = true) (e : p.N = q.N) : p = q := by
  unfold F37_addr_Has at hp hq
  simp only [Bool.and_eq_true, decide_eq_true_eq] at hp hq
  rw [e] at hp
  have : p.A = q.A := hp.2.symm.trans hq.2
  cases p; cases q
  simp only at this e
  subst this e
  rfl

theorem ribBest_true (t : TTable) (a : Int) (ok0 : TTable.ok t) (ok1 : InK .u32 a) : F4_crossroadslaw25_RibBest t a = some true := by
  unfold F4_crossroadslaw25_RibBest
  by_cases hn : 80 < t.L.length
  · have d : decide (80 < (t.L.length : Int)) = true := by simp; omega
    rw [d]
    exact alive_true
  · have d : decide (80 < (t.L.length : Int)) = false := by simp; omega
    rw [d]
    simp only [cond_false]
    cases hs : F6_crossroadslaw25_short t.L with
    | false => exact alive_true
    | true =>
      have hsh := (short_iff t.L).1 hs
      simp only [cond_true]
      have hu : ∀ x ∈ t.L, InK .u32 x.P.A := fun x hx => (ok0 x hx).1.1
      rw [table_eq (show t.L.length < 1099511627776 by omega) fun x hx => by have := hsh x hx; omega]
      simp only
      cases hm : F12_crossroadsref25_MayAll t with
      | false => exact alive_true
      | true =>
        simp only [cond_true]
        have hT := refMay_ok hu hm
        obtain ⟨liv, all, hc⟩ := counts hT
        have hhops : ∀ x ∈ all, x.Hops.length < 1099511627776 := fun x hx => by
          obtain ⟨c, h1, _, h2⟩ := hc.lv.mem x (hc.al.mem x hx)
          have := hsh c h1
          have := h2.hops
          omega
        have huA : ∀ x ∈ all, InK .u32 x.P.A := fun x hx => by
          obtain ⟨c, h1, _, h2⟩ := hc.lv.mem x (hc.al.mem x hx)
          rw [h2.P]
          exact hu c h1
        obtain ⟨f, b, g1, g2, _, g4⟩ := find_l1 a all false zC
        have hF : F18_rib_Find t a = some (b, f) := by
          unfold F18_rib_Find
          rw [hc.eq]
          simp only
          rw [g1]
        rw [hF]
        simp only
        have hT1 : ∀ c ∈ t.L, 1 ≤ c.Hops.length := fun c hc => by have := (hT.may c hc).hops; omega
        rw [best_l1 (ok := f) t.L fun d hd => ?_]
        · simp only
          rcases best_spec hc.eq b.P with ⟨e, e1, e2, e3⟩ | ⟨e1, e3⟩
          · rw [e3]
            simp only [alive_true, cond_true]
            cases hf : f with
            | false => rfl
            | true =>
              rcases g2 hf with ⟨_, h⟩ | ⟨hb, hh⟩
              · cases h
              · have heb : e = b := all_one hc.al.srt e1 hb e2
                subst heb
                simp only [cond_true, plain_eq (hhops e e1), same_refl, ← has_same (huA e e1) ok1, hh]
          · rw [e3]
            simp only [alive_true, cond_true]
            cases hf : f with
            | false => rfl
            | true =>
              rcases g2 hf with ⟨_, h⟩ | ⟨hb, hh⟩
              · cases h
              · exact absurd rfl (e1 b hb)
        · obtain ⟨x, ok, h1, h2⟩ := lives_some hT1 (c := d) (by have := hsh d hd; omega)
          refine ⟨x, ok, h1, fun hok hh => ?_⟩
          subst hok
          have hlv := h2 rfl
          have hxl := hc.lv.cov d hd x h1
          rw [← has_same (by rw [hlv.P]; exact hu d hd) ok1] at hh
          obtain ⟨e, e1, e2, e3⟩ := hc.al.cov x hxl
          have h5 := g4 e e1 (by rw [e2]; exact hh)
          rw [e2] at h5
          refine ⟨h5.1, by omega, fun hP => ?_⟩
          rcases g2 h5.1 with ⟨_, h⟩ | ⟨hb, _⟩
          · cases h
          · have heb : e = b := all_one hc.al.srt e1 hb (e2.trans hP)
            rw [← heb]
            exact e3

end Go.Proofs.Ytmfggjebbhdejaa.Abs
