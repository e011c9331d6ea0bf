/- Worlds: what the program does to one and what the document does are one; what stays true of it. Plain law: no program in sight. -/
import Derived.Test.YtlemcljcmfphcaaL1
set_option linter.unusedVariables false
set_option linter.unusedSimpArgs false
namespace Go.Proofs.Ytlemcljcmfphcaa.Abs
open Go

structure InvD (d : TDomain) : Prop where
  sIn : Srt id d.In
  sEx : Srt TExt.P d.Ext
  nIn : d.In.length ≤ 50
  nEx : d.Ext.length ≤ 50

structure InvW (w : TWorld) : Prop where
  nD : w.D.length ≤ 8
  all : ∀ d ∈ w.D, InvD d

theorem inv_default : InvD default := ⟨List.Pairwise.nil, List.Pairwise.nil, Nat.zero_le _, Nat.zero_le _⟩
theorem InvW.get {w : TWorld} (h : InvW w) (k : Nat) : InvD (w.D.getD k default) := by
  rw [List.getD_eq_getElem?_getD]
  cases e : w.D[k]? with
  | none => exact inv_default
  | some d => exact h.all d (List.mem_of_getElem? e)

theorem is_eq (w : TWorld) (i : Int) : F30_redist_World_is w i = decide (0 ≤ i ∧ i < (w.D.length : Int)) := by
  unfold F30_redist_World_is
  by_cases h1 : 0 ≤ i <;> by_cases h2 : i < (w.D.length : Int) <;> simp [h1, h2]

theorem own_eq {d : TDomain} (h : InvD d) (p : TPrefix) : ∃ k : Nat, F33_redist_Domain_own d p = ((k : Int), decide (p ∈ d.In)) ∧ At id d.In p k := by
  obtain ⟨k, k1, k2⟩ := bs_at (p := p) h.sIn (by have := h.nIn; omega)
  refine ⟨k, ?_, k2⟩
  unfold F33_redist_Domain_own
  rw [bs55]
  refine Eq.trans k1 ?_
  have : (k < d.In.length ∧ id (d.In.getD k default) = p) ↔ p ∈ d.In := (k2.found h.sIn).trans ⟨fun ⟨x, hx, e⟩ => e ▸ hx, fun hp => ⟨p, hp, rfl⟩⟩
  simp only [this]
theorem at_eq {d : TDomain} (h : InvD d) (p : TPrefix) : ∃ k : Nat, F43_redist_Domain_at d p = ((k : Int), decide (∃ x ∈ d.Ext, x.P = p)) ∧ At TExt.P d.Ext p k := by
  obtain ⟨k, k1, k2⟩ := bs_at (p := p) h.sEx (by have := h.nEx; omega)
  refine ⟨k, ?_, k2⟩
  unfold F43_redist_Domain_at
  rw [bs61]
  refine Eq.trans k1 ?_
  simp only [k2.found h.sEx]

theorem toNat_succ {k : Nat} (h : k ≤ 1000) : (IntKind.i64.wrap ((k : Int) + 1)).toNat = k + 1 := by
  rw [wi64 (by omega) (by omega)]
  omega

theorem wo_eq {d : TDomain} (h : InvD d) (p : TPrefix) : F32_redist_Domain_without d p = (⟨d.Tag, d.In, d.Ext.filter fun x => !decide (x.P = p)⟩, decide (∃ x ∈ d.Ext, x.P = p)) := by
  obtain ⟨k, k1, k2⟩ := at_eq h p
  unfold F32_redist_Domain_without
  rw [k1]
  by_cases hf : ∃ x ∈ d.Ext, x.P = p
  · obtain ⟨g1, g2⟩ := (k2.found h.sEx).2 hf
    have := k2.del h.sEx g1 g2
    simp only [hf, decide_true, cond_true, del_, Int.toNat_natCast]
    rw [toNat_succ (by have := h.nEx; omega), this]
  · simp only [hf, decide_false, cond_false]
    rw [filter_none hf]

theorem inv_filter {d : TDomain} (h : InvD d) (p : TPrefix) : InvD ⟨d.Tag, d.In, d.Ext.filter fun x => !decide (x.P = p)⟩ :=
  ⟨h.sIn, h.sEx.sublist List.filter_sublist, h.nIn, Nat.le_trans (List.length_filter_le _ _) h.nEx⟩

theorem inv_set {w : TWorld} (h : InvW w) (k : Nat) {d : TDomain} (hd : InvD d) : InvW ⟨w.D.set k d⟩ :=
  ⟨by simpa using h.nD, fun x hx => by rcases List.mem_or_eq_of_mem_set hx with h1 | h1; exact h.all x h1; exact h1 ▸ hd⟩

theorem inv_with {w : TWorld} (h : InvW w) (i : Int) {d : TDomain} (hd : InvD d) : InvW (F36_redist_World_with w i d) := inv_set h _ hd
theorem with_eq (w : TWorld) (i : Int) (d : TDomain) : F41_crossroadsref28_with w i d = F36_redist_World_with w i d := by
  rfl

/-! ### Has -/
theorem find_only {l : List TExt} {p : TPrefix} : (l.find? fun x => decide (x.P = p)) = none ↔ ¬ ∃ x ∈ l, x.P = p := by
  rw [List.find?_eq_none]
  simp
theorem has_ref {w : TWorld} {i : Int} (p : TPrefix) (hi : 0 ≤ i ∧ i < (w.D.length : Int)) : F22_crossroadsref28_Has w i p =
    if p ∈ (w.D.getD i.toNat default).In then (⟨p, (w.D.getD i.toNat default).Tag, false⟩, true) else match (w.D.getD i.toNat default).Ext.find? (fun x => decide (x.P = p)) with | some x => (x, true) | none => (⟨⟨0, 0⟩, 0, false⟩, false) := by
  unfold F22_crossroadsref28_Has
  have h1 : ¬ i < 0 := by omega
  have h2 : ¬ (w.D.length : Int) ≤ i := by omega
  simp only [h1, h2, decide_false, cond_false, owns_eq, has_l1]
  by_cases h3 : p ∈ (w.D.getD i.toNat default).In
  · simp only [h3, decide_true, cond_true, if_true]
  · simp only [h3, decide_false, cond_false, if_false]
    cases (w.D.getD i.toNat default).Ext.find? (fun x => decide (x.P = p)) <;> rfl
theorem has_out {w : TWorld} {i : Int} (p : TPrefix) (hi : ¬ (0 ≤ i ∧ i < (w.D.length : Int))) : F22_crossroadsref28_Has w i p = (⟨⟨0, 0⟩, 0, false⟩, false) := by
  unfold F22_crossroadsref28_Has
  by_cases h1 : i < 0
  · simp [h1]
  · have h2 : (w.D.length : Int) ≤ i := by omega
    simp [h1, h2]
theorem has_eq {w : TWorld} (h : InvW w) (i : Int) (p : TPrefix) : F21_redist_Has w i p = F22_crossroadsref28_Has w i p := by
  unfold F21_redist_Has
  simp only [is_eq]
  by_cases hi : 0 ≤ i ∧ i < (w.D.length : Int)
  · rw [has_ref p hi]
    simp only [hi, decide_true, cond_true, and_self]
    have hd := h.get i.toNat
    generalize w.D.getD i.toNat default = d at hd
    obtain ⟨k, k1, k2⟩ := own_eq hd p
    obtain ⟨j, j1, j2⟩ := at_eq hd p
    rw [k1, j1]
    by_cases h3 : p ∈ d.In
    · simp only [h3, decide_true, cond_true, if_true]
    · simp only [h3, decide_false, cond_false, if_false]
      by_cases h4 : ∃ x ∈ d.Ext, x.P = p
      · simp only [h4, decide_true, cond_true, Int.toNat_natCast]
        cases e : d.Ext.find? fun x => decide (x.P = p) with
        | none => exact absurd h4 (find_only.1 e)
        | some x =>
          obtain ⟨_, g2⟩ := j2.only hd.sEx (List.mem_of_find?_eq_some e) (by simpa using List.find?_some e)
          simp only [g2]
      · simp only [h4, decide_false, cond_false, find_only.2 h4]
  · rw [has_out p hi]
    simp only [hi, decide_false, cond_false]

/-! ### Own -/
theorem ref_own_row {d : TDomain} {p : TPrefix} {k : Nat} (hd : InvD d) (h : At id d.In p k) (hn : p ∉ d.In) :
    (match F16_crossroadsref28_Own_l1 p false [] d.In with | (put, out) => bif put then out else out ++ [p]) = d.In.take k ++ [p] ++ d.In.drop k := by
  have hne : ¬ ∃ x ∈ d.In, id x = p := fun ⟨x, hx, e⟩ => hn (e ▸ hx)
  have h1 := own_l1 p (d.In.drop k) (h.gt hd.sIn hne) (d.In.take k) [] fun x hx => asymm_plt (h.lo x hx)
  rw [List.take_append_drop] at h1
  rw [h1]
  by_cases hB : d.In.drop k = []
  · simp [hB]
  · simp [hB]

theorem ownrow_inv {d : TDomain} {p : TPrefix} {k : Nat} (hd : InvD d) (h : At id d.In p k) (hn : p ∉ d.In) (hl : d.In.length < 50) : InvD ⟨d.Tag, d.In.take k ++ [p] ++ d.In.drop k, d.Ext.filter fun x => !decide (x.P = p)⟩ := by
  have hne : ¬ ∃ x ∈ d.In, id x = p := fun ⟨x, hx, e⟩ => hn (e ▸ hx)
  refine ⟨h.ins hd.sIn hne rfl, (inv_filter hd p).sEx, ?_, (inv_filter hd p).nEx⟩
  have := h.le
  simp
  omega

/-- What 'Own' does. -/
theorem own_both {w : TWorld} (h : InvW w) (i : Int) {p : TPrefix} (hm : F31_addr_May p = F37_crossroadsref03_May p) :
    F15_redist_Own w i p = F16_crossroadsref28_Own w i p ∧ InvW (F15_redist_Own w i p).1 ∧
      ((F15_redist_Own w i p).1 = w ∨ ∃ k : Nat, (0 ≤ i ∧ i < (w.D.length : Int)) ∧ F31_addr_May p = true ∧ p ∉ (w.D.getD i.toNat default).In ∧
        (F15_redist_Own w i p).1 = ⟨w.D.set i.toNat ⟨(w.D.getD i.toNat default).Tag, (w.D.getD i.toNat default).In.take k ++ [p] ++ (w.D.getD i.toNat default).In.drop k, (w.D.getD i.toNat default).Ext.filter fun x => !decide (x.P = p)⟩⟩) := by
  unfold F15_redist_Own F16_crossroadsref28_Own
  simp only [is_eq, ← hm]
  by_cases hi : 0 ≤ i ∧ i < (w.D.length : Int)
  · have h1 : ¬ i < 0 := by omega
    have h2 : ¬ (w.D.length : Int) ≤ i := by omega
    simp only [hi, h1, h2, decide_true, decide_false, cond_true, cond_false, and_self]
    cases hmay : F31_addr_May p with
    | false => exact ⟨by simp, by simpa using h, .inl (by simp)⟩
    | true =>
      simp only [cond_true]
      have hd := h.get i.toNat
      generalize hdd : w.D.getD i.toNat default = d at hd
      rw [wo_eq hd p]
      dsimp only
      have hd2 := inv_filter hd p
      obtain ⟨k, k1, k2⟩ := own_eq hd2 p
      rw [k1]
      simp only [owns_eq]
      by_cases h3 : p ∈ d.In
      · simp only [h3, decide_true, cond_true]
        exact ⟨trivial, h, .inl (by trivial)⟩
      · simp only [h3, decide_false, cond_false]
        by_cases h4 : (50 : Int) ≤ d.In.length
        · simp only [h4, decide_true, cond_true]
          exact ⟨trivial, h, .inl (by trivial)⟩
        · simp only [h4, decide_false, cond_false, ins_, Int.toNat_natCast]
          have hrow := ref_own_row (d := d) (k := k) hd k2 h3
          have hinv := ownrow_inv (d := d) (k := k) hd k2 h3 (by omega)
          refine ⟨?_, inv_with h _ hinv, .inr ⟨k, trivial, trivial, not_false, rfl⟩⟩
          rw [without_eq]
          cases e : F16_crossroadsref28_Own_l1 p false [] d.In with
          | mk put out =>
            rw [e] at hrow
            cases put <;> (dsimp only [cond_true, cond_false] at hrow ⊢; rw [← hrow, with_eq])
  · simp only [hi, decide_false, cond_false]
    refine ⟨?_, h, .inl (by trivial)⟩
    by_cases h1 : i < 0
    · simp [h1]
    · have h2 : (w.D.length : Int) ≤ i := by omega
      simp [h1, h2]

/-! ### Tell -/
theorem has_found {w : TWorld} (h : InvW w) {i : Int} {p : TPrefix} {x : TExt} (hx : F21_redist_Has w i p = (x, true)) :
    (0 ≤ i ∧ i < (w.D.length : Int)) ∧ x.P = p ∧ ((p ∈ (w.D.getD i.toNat default).In ∧ x = ⟨p, (w.D.getD i.toNat default).Tag, false⟩) ∨ (p ∉ (w.D.getD i.toNat default).In ∧ x ∈ (w.D.getD i.toNat default).Ext)) := by
  rw [has_eq h] at hx
  by_cases hi : 0 ≤ i ∧ i < (w.D.length : Int)
  · rw [has_ref p hi] at hx
    refine ⟨hi, ?_⟩
    split at hx
    · rename_i h1
      injection hx with hx
      subst hx
      exact ⟨rfl, .inl ⟨h1, rfl⟩⟩
    · rename_i h1
      split at hx
      · rename_i y hy
        injection hx with hx
        subst hx
        exact ⟨by simpa using List.find?_some hy, .inr ⟨h1, List.mem_of_find?_eq_some hy⟩⟩
      · injection hx with _ hx
        cases hx
  · rw [has_out p hi] at hx
    injection hx with _ hx
    cases hx

theorem ext_eq (x y : TExt) (m : Bool) : (decide (x.P.A = y.P.A) && (decide (x.P.N = y.P.N) && (decide (x.Tag = y.Tag) && ((x.Marked == m) && true)))) = decide (x = ⟨y.P, y.Tag, m⟩) := by
  obtain ⟨⟨xa, xn⟩, xt, xm⟩ := x
  obtain ⟨⟨ya, yn⟩, yt, ym⟩ := y
  rw [Bool.eq_iff_iff]
  simp only [Bool.and_true, Bool.and_eq_true, decide_eq_true_eq, beq_iff_eq, TExt.mk.injEq, TPrefix.mk.injEq]
  constructor
  · rintro ⟨a, b, c, d⟩; exact ⟨⟨a, b⟩, c, d⟩
  · rintro ⟨⟨a, b⟩, c, d⟩; exact ⟨a, b, c, d⟩

theorem hears_eq {d : TDomain} (h : InvD d) (b : TBorder) (x : TExt) : F42_redist_Border_hears b d x = decide (x.P ∉ d.In ∧ x.Tag ≠ d.Tag ∧ (b.Provider && x.Marked) = false) := by
  unfold F42_redist_Border_hears
  obtain ⟨k, k1, _⟩ := own_eq h x.P
  rw [k1]
  by_cases h1 : x.P ∈ d.In
  · simp [h1]
  · by_cases h2 : x.Tag = d.Tag
    · simp [h1, h2]
    · cases h3 : b.Provider <;> simp [h1, h2]

/-- What a border's telling leads to, where it is heard. -/
structure Told (w : TWorld) (b : TBorder) (p : TPrefix) (x : TExt) : Prop where
  fr : 0 ≤ b.From ∧ b.From < (w.D.length : Int)
  to : 0 ≤ b.To ∧ b.To < (w.D.length : Int)
  ne : b.From ≠ b.To
  may : F31_addr_May p = true
  has : F21_redist_Has w b.From p = (x, true)
  own : p ∉ (w.D.getD b.To.toNat default).In
  tag : x.Tag ≠ (w.D.getD b.To.toNat default).Tag
  mrk : (b.Provider && x.Marked) = false

theorem tell_not {w : TWorld} (h : InvW w) (b : TBorder) {p : TPrefix} (hm : F31_addr_May p = F37_crossroadsref03_May p) (hn : ¬ ∃ x, Told w b p x) :
    F17_redist_Tell w b p = F18_crossroadsref28_Tell w b p ∧ (F17_redist_Tell w b p).1 = w ∧ (F17_redist_Tell w b p).2.1 = false := by
  unfold F17_redist_Tell F18_crossroadsref28_Tell
  simp only [is_eq, ← hm]
  by_cases h1 : 0 ≤ b.From ∧ b.From < (w.D.length : Int)
  · have a1 : ¬ b.From < 0 := by omega
    have a2 : ¬ (w.D.length : Int) ≤ b.From := by omega
    simp only [h1, a1, a2, decide_true, decide_false, cond_true, cond_false, and_self]
    by_cases h2 : 0 ≤ b.To ∧ b.To < (w.D.length : Int)
    · have a3 : ¬ b.To < 0 := by omega
      have a4 : ¬ (w.D.length : Int) ≤ b.To := by omega
      simp only [h2, a3, a4, decide_true, decide_false, cond_true, cond_false, and_self]
      by_cases h3 : b.From = b.To
      · simp [h3]
      · simp only [h3, decide_false, cond_false]
        cases h4 : F31_addr_May p with
        | false => simp
        | true =>
          simp only [cond_true, ← has_eq h]
          cases h5 : F21_redist_Has w b.From p with
          | mk x is =>
            cases is with
            | false => simp
            | true =>
              simp only [cond_true]
              have hd := h.get b.To.toNat
              have hxp := (has_found h h5).2.1
              rw [hears_eq hd]
              by_cases hc : x.P ∉ (w.D.getD b.To.toNat default).In ∧ x.Tag ≠ (w.D.getD b.To.toNat default).Tag ∧ (b.Provider && x.Marked) = false
              · exact absurd ⟨x, ⟨h1, h2, h3, h4, h5, hxp ▸ hc.1, hc.2.1, hc.2.2⟩⟩ hn
              · simp only [hc, decide_false, cond_false, owns_eq, and_self, and_true]
                rw [hxp] at hc
                by_cases c1 : x.Tag = (w.D.getD b.To.toNat default).Tag
                · simp [-List.getD_eq_getElem?_getD, c1]
                · by_cases c2 : p ∈ (w.D.getD b.To.toNat default).In
                  · cases h6 : b.Provider <;> cases h7 : x.Marked <;> simp [-List.getD_eq_getElem?_getD, c1, c2]
                  · have c3 : ¬ (b.Provider && x.Marked) = false := fun c3 => hc ⟨c2, c1, c3⟩
                    have c4 : b.Provider = true ∧ x.Marked = true := by
                      cases h6 : b.Provider <;> cases h7 : x.Marked <;> simp_all
                    simp [-List.getD_eq_getElem?_getD, c1, c4.1, c4.2]
    · simp only [h2, decide_false, cond_false]
      by_cases a3 : b.To < 0
      · simp [a3]
      · have a4 : (w.D.length : Int) ≤ b.To := by omega
        simp [a3, a4]
  · simp only [h1, decide_false, cond_false]
    by_cases a1 : b.From < 0
    · simp [a1]
    · have a2 : (w.D.length : Int) ≤ b.From := by omega
      simp [a1, a2]

/-- Where it is heard: the program's and the document's steps. -/
theorem tell_steps {w : TWorld} (h : InvW w) {b : TBorder} {p : TPrefix} {x : TExt} (ht : Told w b p x) {k : Nat} (hk : F43_redist_Domain_at (w.D.getD b.To.toNat default) p = ((k : Int), decide (∃ y ∈ (w.D.getD b.To.toNat default).Ext, y.P = p))) :
    F17_redist_Tell w b p = (if (∃ y ∈ (w.D.getD b.To.toNat default).Ext, y.P = p) then
        if (w.D.getD b.To.toNat default).Ext.getD k default = ⟨x.P, x.Tag, b.Provider⟩ then (w, false, 0)
        else (F36_redist_World_with w b.To ⟨(w.D.getD b.To.toNat default).Tag, (w.D.getD b.To.toNat default).In, (w.D.getD b.To.toNat default).Ext.set k ⟨x.P, x.Tag, b.Provider⟩⟩, true, 0)
      else if 50 ≤ (w.D.getD b.To.toNat default).Ext.length then (w, false, 8)
      else (F36_redist_World_with w b.To ⟨(w.D.getD b.To.toNat default).Tag, (w.D.getD b.To.toNat default).In, ins_ (w.D.getD b.To.toNat default).Ext k [⟨x.P, x.Tag, b.Provider⟩]⟩, true, 0)) := by
  have hxp := (has_found h ht.has).2.1
  have hh : F42_redist_Border_hears b (w.D.getD b.To.toNat default) x = true := by
    rw [hears_eq (h.get _)]
    exact decide_eq_true ⟨hxp ▸ ht.own, ht.tag, ht.mrk⟩
  unfold F17_redist_Tell
  simp only [is_eq, ht.fr, ht.to, ht.ne, ht.may, ht.has, hh, hk, decide_true, decide_false, cond_true, cond_false, and_self, ext_eq, Int.toNat_natCast]
  by_cases h1 : ∃ y ∈ (w.D.getD b.To.toNat default).Ext, y.P = p
  · simp only [h1, decide_true, cond_true, if_true]
    by_cases h2 : (w.D.getD b.To.toNat default).Ext.getD k default = ⟨x.P, x.Tag, b.Provider⟩
    · simp only [h2, decide_true, cond_true, if_true]
    · simp only [h2, decide_false, cond_false, if_false]
  · simp only [h1, decide_false, cond_false, if_false]
    by_cases h2 : 50 ≤ (w.D.getD b.To.toNat default).Ext.length
    · have h2' : (50 : Int) ≤ ((w.D.getD b.To.toNat default).Ext.length : Int) := by omega
      simp only [h2, h2', decide_true, cond_true, if_true]
    · have h2' : ¬ (50 : Int) ≤ ((w.D.getD b.To.toNat default).Ext.length : Int) := by omega
      simp only [h2, h2', decide_false, cond_false, if_false]

theorem tell_ref {w : TWorld} (h : InvW w) {b : TBorder} {p : TPrefix} {x : TExt} (ht : Told w b p x) (hm : F31_addr_May p = F37_crossroadsref03_May p) {o : TExt} {was : Bool} (ho : F22_crossroadsref28_Has w b.To p = (o, was)) :
    F18_crossroadsref28_Tell w b p = (if was = false ∧ 50 ≤ (w.D.getD b.To.toNat default).Ext.length then (w, false, 8)
      else (F36_redist_World_with w b.To ⟨(w.D.getD b.To.toNat default).Tag, (w.D.getD b.To.toNat default).In, F46_crossroadsref28_into (w.D.getD b.To.toNat default).Ext ⟨x.P, x.Tag, b.Provider⟩⟩, !was || !decide (o = ⟨x.P, x.Tag, b.Provider⟩), 0)) := by
  have a1 : ¬ b.From < 0 := by have := ht.fr; omega
  have a2 : ¬ (w.D.length : Int) ≤ b.From := by have := ht.fr; omega
  have a3 : ¬ b.To < 0 := by have := ht.to; omega
  have a4 : ¬ (w.D.length : Int) ≤ b.To := by have := ht.to; omega
  have hmk := ht.mrk
  unfold F18_crossroadsref28_Tell
  simp only [a1, a2, a3, a4, ht.ne, ← hm, ht.may, ← has_eq h, ht.has, ht.tag, decide_true, decide_false, cond_true, cond_false, owns_eq, ht.own, with_eq, ext_eq]
  rw [has_eq h b.To, ho]
  have fin : ∀ m : Bool, (bif was then
        (let c111 := F46_crossroadsref28_into (w.D.getD b.To.toNat default).Ext ⟨x.P, x.Tag, m⟩
         (let c117 := F36_redist_World_with w b.To ⟨(w.D.getD b.To.toNat default).Tag, (w.D.getD b.To.toNat default).In, c111⟩
          (c117, !decide (o = ⟨x.P, x.Tag, m⟩), (0 : Int))))
      else
        (bif decide ((50 : Int) ≤ (((w.D.getD b.To.toNat default).Ext).length : Int)) then (w, false, 8)
        else
          (let c111 := F46_crossroadsref28_into (w.D.getD b.To.toNat default).Ext ⟨x.P, x.Tag, m⟩
           (let c117 := F36_redist_World_with w b.To ⟨(w.D.getD b.To.toNat default).Tag, (w.D.getD b.To.toNat default).In, c111⟩
            (c117, true, 0))))) = (if was = false ∧ 50 ≤ (w.D.getD b.To.toNat default).Ext.length then (w, false, 8)
      else (F36_redist_World_with w b.To ⟨(w.D.getD b.To.toNat default).Tag, (w.D.getD b.To.toNat default).In, F46_crossroadsref28_into (w.D.getD b.To.toNat default).Ext ⟨x.P, x.Tag, m⟩⟩, !was || !decide (o = ⟨x.P, x.Tag, m⟩), 0)) := by
    intro m
    cases was with
    | true => simp
    | false =>
      by_cases h2 : 50 ≤ (w.D.getD b.To.toNat default).Ext.length
      · have h2' : (50 : Int) ≤ ((w.D.getD b.To.toNat default).Ext.length : Int) := by omega
        simp [-List.getD_eq_getElem?_getD, h2, h2']
      · have h2' : ¬ (50 : Int) ≤ ((w.D.getD b.To.toNat default).Ext.length : Int) := by omega
        simp [-List.getD_eq_getElem?_getD, h2, h2']
  cases h1 : b.Provider with
  | false => simp only [cond_false]; exact fin false
  | true =>
    have h2 : x.Marked = false := by rw [h1] at hmk; simpa using hmk
    simp only [h2, cond_true, cond_false]
    exact fin true

theorem set_self {w : TWorld} {i : Nat} : (⟨w.D.set i (w.D.getD i default)⟩ : TWorld) = w := by
  obtain ⟨D⟩ := w
  congr 1
  apply List.ext_getElem (by simp)
  intro j h1 h2
  rw [List.getElem_set]
  split
  · rename_i e
    subst e
    simp [List.getD_eq_getElem?_getD, List.getElem?_eq_getElem h2]
  · rfl

/-- What 'Tell' does where it is heard. -/
theorem tell_told {w : TWorld} (h : InvW w) {b : TBorder} {p : TPrefix} {x : TExt} (ht : Told w b p x) (hm : F31_addr_May p = F37_crossroadsref03_May p) :
    F17_redist_Tell w b p = F18_crossroadsref28_Tell w b p ∧
      ((F17_redist_Tell w b p = (w, false, 0) ∧ (⟨p, x.Tag, b.Provider⟩ : TExt) ∈ (w.D.getD b.To.toNat default).Ext) ∨ (F17_redist_Tell w b p = (w, false, 8) ∧ (¬ ∃ y ∈ (w.D.getD b.To.toNat default).Ext, y.P = p) ∧ 50 ≤ (w.D.getD b.To.toNat default).Ext.length) ∨
        ∃ E : List TExt, F17_redist_Tell w b p = (⟨w.D.set b.To.toNat ⟨(w.D.getD b.To.toNat default).Tag, (w.D.getD b.To.toNat default).In, E⟩⟩, true, 0) ∧ InvD ⟨(w.D.getD b.To.toNat default).Tag, (w.D.getD b.To.toNat default).In, E⟩ ∧
          (∀ y ∈ E, y = ⟨p, x.Tag, b.Provider⟩ ∨ y ∈ (w.D.getD b.To.toNat default).Ext) ∧ (⟨p, x.Tag, b.Provider⟩ : TExt) ∈ E ∧ (⟨p, x.Tag, b.Provider⟩ : TExt) ∉ (w.D.getD b.To.toNat default).Ext) := by
  have hd := h.get b.To.toNat
  have hxp := (has_found h ht.has).2.1
  obtain ⟨k, k1, k2⟩ := at_eq hd p
  cases ho : F22_crossroadsref28_Has w b.To p with
  | mk o was =>
  have hs := tell_steps h ht k1
  have hr := tell_ref h ht hm ho
  rw [has_ref p ht.to, if_neg ht.own] at ho
  have hself := set_self (w := w) (i := b.To.toNat)
  have hown := ht.own
  generalize hdd : w.D.getD b.To.toNat default = d at *
  rw [hxp] at hs hr
  have hA : ∀ y ∈ d.Ext.take k, plt y.P p := k2.lo
  by_cases h1 : ∃ y ∈ d.Ext, y.P = p
  · obtain ⟨g1, g2⟩ := (k2.found hd.sEx).2 h1
    have hB := k2.rest hd.sEx g1 g2
    have hin : F46_crossroadsref28_into d.Ext ⟨p, x.Tag, b.Provider⟩ = d.Ext.set k ⟨p, x.Tag, b.Provider⟩ := by
      rw [set_eq g1]
      exact into_eq (k2.del hd.sEx g1 g2).symm hA hB
    have hof : o = d.Ext.getD k default ∧ was = true := by
      cases e : d.Ext.find? fun y => decide (y.P = p) with
      | none => exact absurd h1 (find_only.1 e)
      | some y =>
        rw [e] at ho
        injection ho with h2 h3
        have := (k2.only hd.sEx (List.mem_of_find?_eq_some e) (by simpa using List.find?_some e)).2
        exact ⟨by rw [this, h2], h3.symm⟩
    obtain ⟨rfl, rfl⟩ := hof
    rw [if_pos h1] at hs
    rw [if_neg (by simp), hin] at hr
    by_cases h2 : d.Ext.getD k default = ⟨p, x.Tag, b.Provider⟩
    · rw [if_pos h2] at hs
      have hsk : d.Ext.set k ⟨p, x.Tag, b.Provider⟩ = d.Ext := by
        rw [← h2, set_eq g1]
        conv => rhs; rw [← List.take_append_drop k d.Ext, drop_getD g1]
        simp
      have hw : F36_redist_World_with w b.To ⟨d.Tag, d.In, d.Ext⟩ = w := hself
      rw [hsk, hw] at hr
      refine ⟨?_, .inl ⟨hs, ?_⟩⟩
      · rw [hs, hr, h2]; simp
      · rw [← h2, List.getD_eq_getElem?_getD, List.getElem?_eq_getElem g1]
        exact List.getElem_mem g1
    · rw [if_neg h2] at hs
      refine ⟨?_, .inr (.inr ⟨d.Ext.set k ⟨p, x.Tag, b.Provider⟩, hs, ⟨hd.sIn, k2.set hd.sEx g1 g2 rfl, hd.nIn, by simpa using hd.nEx⟩, fun y hy => ?_, ?_, fun hmem => ?_⟩)⟩
      · rw [hs, hr, decide_eq_false h2]
        rfl
      · rcases List.mem_or_eq_of_mem_set hy with h3 | h3
        · exact .inr h3
        · exact .inl h3
      · exact List.mem_set g1 _
      · exact h2 (k2.only hd.sEx hmem rfl).2
  · have hB := k2.gt hd.sEx h1
    have hwas : was = false := by
      rw [find_only.2 h1] at ho
      injection ho with _ h3
      exact h3.symm
    subst hwas
    rw [if_neg h1] at hs
    by_cases h2 : 50 ≤ d.Ext.length
    · rw [if_pos h2] at hs
      rw [if_pos ⟨rfl, h2⟩] at hr
      exact ⟨by rw [hs, hr], .inr (.inl ⟨hs, h1, h2⟩)⟩
    · rw [if_neg h2] at hs
      rw [if_neg (by simp [h2])] at hr
      have hin : F46_crossroadsref28_into d.Ext ⟨p, x.Tag, b.Provider⟩ = d.Ext.take k ++ [⟨p, x.Tag, b.Provider⟩] ++ d.Ext.drop k :=
        into_eq (by rw [filter_none (p := p) h1, List.take_append_drop]) hA hB
      rw [hin] at hr
      refine ⟨by rw [hs, hr]; simp [ins_], .inr (.inr ⟨d.Ext.take k ++ [⟨p, x.Tag, b.Provider⟩] ++ d.Ext.drop k, ?_, ⟨hd.sIn, k2.ins hd.sEx h1 rfl, hd.nIn, ?_⟩, fun y hy => ?_, by simp, fun hmem => h1 ⟨_, hmem, rfl⟩⟩)⟩
      · rw [hs]; rfl
      · have := k2.le
        simp
        omega
      · rw [List.mem_append, List.mem_append] at hy
        rcases hy with (h3 | h3) | h3
        · exact .inr (List.mem_of_mem_take h3)
        · exact .inl (List.mem_singleton.1 h3)
        · exact .inr (List.mem_of_mem_drop h3)

theorem tell_both {w : TWorld} (h : InvW w) (b : TBorder) {p : TPrefix} (hm : F31_addr_May p = F37_crossroadsref03_May p) : F17_redist_Tell w b p = F18_crossroadsref28_Tell w b p ∧ InvW (F17_redist_Tell w b p).1 := by
  by_cases ht : ∃ x, Told w b p x
  · obtain ⟨x, ht⟩ := ht
    obtain ⟨h1, h2⟩ := tell_told h ht hm
    refine ⟨h1, ?_⟩
    rcases h2 with h2 | h2 | ⟨E, h2, h3, _⟩
    · rw [h2.1]; exact h
    · rw [h2.1]; exact h
    · rw [h2]; exact inv_set h _ h3
  · obtain ⟨h1, h2, _⟩ := tell_not h b hm ht
    refine ⟨h1, ?_⟩
    rw [h2]
    exact h

/-! ### Cease -/
theorem cease_both {w : TWorld} (h : InvW w) (i : Int) (p : TPrefix) : F19_redist_Cease w i p = F20_crossroadsref28_Cease w i p ∧ InvW (F19_redist_Cease w i p).1 ∧
    ((F19_redist_Cease w i p).1 = w ∨ (F19_redist_Cease w i p).1 = ⟨w.D.set i.toNat ⟨(w.D.getD i.toNat default).Tag, (w.D.getD i.toNat default).In, (w.D.getD i.toNat default).Ext.filter fun x => !decide (x.P = p)⟩⟩) := by
  unfold F19_redist_Cease F20_crossroadsref28_Cease
  simp only [is_eq]
  by_cases hi : 0 ≤ i ∧ i < (w.D.length : Int)
  · have h1 : ¬ i < 0 := by omega
    have h2 : ¬ (w.D.length : Int) ≤ i := by omega
    simp only [hi, h1, h2, decide_true, decide_false, cond_true, cond_false, and_self]
    have hd := h.get i.toNat
    generalize w.D.getD i.toNat default = d at hd
    rw [wo_eq hd p]
    dsimp only
    refine ⟨?_, inv_with h _ (inv_filter hd p), .inr rfl⟩
    rw [without_eq, with_eq]
    congr 1
    by_cases hf : ∃ x ∈ d.Ext, x.P = p
    · have : (d.Ext.filter fun x => !decide (x.P = p)).length < d.Ext.length := by
        obtain ⟨x, hx, he⟩ := hf
        refine Nat.lt_of_le_of_ne (List.length_filter_le _ _) fun e => ?_
        have := (List.length_filter_eq_length_iff.1 e) x hx
        simp [he] at this
      have h3 : ((d.Ext.filter fun x => !decide (x.P = p)).length : Int) < (d.Ext.length : Int) := by omega
      simp only [hf, h3]
    · have h3 : ¬ ((d.Ext.filter fun x => !decide (x.P = p)).length : Int) < (d.Ext.length : Int) := by rw [filter_none hf]; omega
      simp only [hf, h3]
  · simp only [hi, decide_false, cond_false]
    refine ⟨?_, h, .inl (by trivial)⟩
    by_cases h1 : i < 0
    · simp [h1]
    · have h2 : (w.D.length : Int) ≤ i := by omega
      simp [h1, h2]
end Go.Proofs.Ytlemcljcmfphcaa.Abs
