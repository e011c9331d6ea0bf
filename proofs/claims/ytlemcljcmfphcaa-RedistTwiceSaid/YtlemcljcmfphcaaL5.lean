/- RedistEcho, RedistProvider and RedistTwice, of the Lean functions. Plain law: no program in sight. -/
import Derived.Test.YtlemcljcmfphcaaL4
set_option linter.unusedVariables false
set_option linter.unusedSimpArgs false
namespace Go.Proofs.Ytlemcljcmfphcaa.Abs
open Go

theorem getD_set {w : TWorld} {k i : Nat} {d : TDomain} (hk : k < w.D.length) : (w.D.set k d).getD i default = if i = k then d else w.D.getD i default := by
  simp only [List.getD_eq_getElem?_getD, List.getElem?_set]
  by_cases h : k = i
  · subst h
    simp [hk]
  · simp [h, Ne.symm h]

/-! ### What each act does, and what a run keeps -/
def actW (w : TWorld) (a : TAct) : TWorld :=
  if a.Kind = 1 then (F15_redist_Own w a.B.From a.P).1 else if a.Kind = 2 then (F17_redist_Tell w a.B a.P).1 else if a.Kind = 3 then (F19_redist_Cease w a.B.From a.P).1 else w

theorem act_inv {w : TWorld} (h : InvW w) (a : TAct) : InvW (actW w a) := by
  unfold actW
  split
  · exact own_inv h _ _
  · split
    · exact tell_inv h _ _
    · split
      · exact cease_inv h _ _
      · exact h

theorem run_cons (w : TWorld) (a : TAct) (l : List TAct) : F24_redist_Run_l1 w (a :: l) = F24_redist_Run_l1 (actW w a) l := by
  conv => lhs; unfold F24_redist_Run_l1
  unfold actW
  by_cases h1 : a.Kind = 1
  · simp [h1]
  · by_cases h2 : a.Kind = 2
    · simp [h1, h2]
    · by_cases h3 : a.Kind = 3 <;> simp [h1, h2, h3]

theorem run_ind {Q : TWorld → Prop} : ∀ (l : List TAct) {w : TWorld}, (∀ a ∈ l, ∀ v, InvW v → Q v → Q (actW v a)) → InvW w → Q w → Q (F24_redist_Run_l1 w l)
  | [], w, _, _, hq => by unfold F24_redist_Run_l1; exact hq
  | a :: l, w, hs, h, hq => by
    rw [run_cons]
    exact run_ind l (fun b hb => hs b (List.mem_cons_of_mem _ hb)) (act_inv h a) (hs a List.mem_cons_self w h hq)

theorem once1_ind {Q : TWorld → Prop} (b : TBorder) (hs : ∀ p v, InvW v → Q v → Q (F17_redist_Tell v b p).1) : ∀ (l : List TPrefix) {w : TWorld} (c : Bool), InvW w → Q w → Q (F51_redist_once_l1 b c w l).2
  | [], w, c, h, hq => by unfold F51_redist_once_l1; exact hq
  | p :: l, w, c, h, hq => by
    unfold F51_redist_once_l1
    cases c
    · exact once1_ind b hs l _ (tell_inv h b p) (hs p w h hq)
    · exact once1_ind b hs l _ (tell_inv h b p) (hs p w h hq)
theorem once2_ind {Q : TWorld → Prop} (hs : ∀ b p v, InvW v → Q v → Q (F17_redist_Tell v b p).1) : ∀ (l : List TBorder) {w : TWorld} (c : Bool), InvW w → Q w → Q (F51_redist_once_l2 c w l).2
  | [], w, c, h, hq => by unfold F51_redist_once_l2; exact hq
  | b :: l, w, c, h, hq => by
    unfold F51_redist_once_l2
    dsimp only
    cases F30_redist_World_is w b.From with
    | false => exact once2_ind hs l c h hq
    | true => exact once2_ind hs l _ (once_l1 b _ c h).2 (once1_ind b (hs b) _ c h hq)
theorem sweep1_ind {Q : TWorld → Prop} (hs : ∀ b p v, InvW v → Q v → Q (F17_redist_Tell v b p).1) (l : List TBorder) : ∀ (fuel : Nat) (n : Int) {w v : TWorld} {m : Int}, InvW w → Q w → F27_redist_Sweep_l1 l fuel n w = .error (v, m) → Q v
  | 0, n, w, v, m, h, hq, e => by unfold F27_redist_Sweep_l1 at e; cases e
  | fuel + 1, n, w, v, m, h, hq, e => by
    unfold F27_redist_Sweep_l1 at e
    have hq' : Q (F51_redist_once w l).1 := once2_ind hs l false h hq
    have hi := once_inv h l
    generalize F51_redist_once w l = r at hq' hi e
    obtain ⟨u, c⟩ := r
    cases c with
    | false =>
      simp only [cond_false] at e
      injection e with e
      injection e with e1 e2
      exact e1 ▸ hq'
    | true =>
      simp only [cond_true] at e
      by_cases h64 : n = 64
      · simp only [h64, decide_true, cond_true] at e
        injection e with e
        injection e with e1 e2
        exact e1 ▸ hq'
      · simp only [h64, decide_false, cond_false] at e
        exact sweep1_ind hs l fuel _ hi hq' e
theorem sweep_ind {Q : TWorld → Prop} (hs : ∀ b p v, InvW v → Q v → Q (F17_redist_Tell v b p).1) {w : TWorld} (h : InvW w) (hq : Q w) (l : List TBorder) : Q (F27_redist_Sweep w l).1 := by
  obtain ⟨v, m, e1, _, _⟩ := sweep_l l ((65 - 1 : Int).toNat + 1) 1 h (by decide) (by decide) (by decide)
  have := sweep1_ind hs l _ _ h hq e1
  unfold F27_redist_Sweep
  rw [e1]
  exact this

theorem built_ind {Q : TWorld → Prop} {tags : List Int} {script : List TAct} (h0 : Q ⟨[]⟩) (hn : ∀ t : List Int, Q ⟨t.map mkD⟩) (hs : ∀ a ∈ script, ∀ v, InvW v → Q v → Q (actW v a)) : Q (F9_crossroadslaw28_built tags script).1 := by
  unfold F9_crossroadslaw28_built
  by_cases h1 : (20 : Int) < tags.length
  · simp only [h1, decide_true, cond_true]; exact h0
  · by_cases h2 : (100 : Int) < script.length
    · simp only [h1, h2, decide_true, decide_false, cond_true, cond_false]; exact h0
    · simp only [h1, h2, decide_false, cond_false]
      refine run_ind script hs (new_inv tags) ?_
      rw [new_eq]
      split
      · exact hn _
      · exact h0

/-! ### Echo -/
/-- No echo. -/
def NoEcho (w : TWorld) : Prop := ∀ i, i < w.D.length → ∀ x ∈ (w.D.getD i default).Ext, x.Tag ≠ (w.D.getD i default).Tag ∧ x.P ∉ (w.D.getD i default).In ∧ ∃ j, j < w.D.length ∧ (w.D.getD j default).Tag = x.Tag ∧ x.P ∈ (w.D.getD j default).In

theorem noEcho_set {w : TWorld} (h : NoEcho w) {k : Nat} (hk : k < w.D.length) {d : TDomain} (ht : d.Tag = (w.D.getD k default).Tag) (hi : ∀ q ∈ (w.D.getD k default).In, q ∈ d.In)
    (hx : ∀ x ∈ d.Ext, x.Tag ≠ d.Tag ∧ x.P ∉ d.In ∧ ∃ j, j < w.D.length ∧ (w.D.getD j default).Tag = x.Tag ∧ x.P ∈ (w.D.getD j default).In) : NoEcho ⟨w.D.set k d⟩ := by
  have hj : ∀ x : TExt, (∃ j, j < w.D.length ∧ (w.D.getD j default).Tag = x.Tag ∧ x.P ∈ (w.D.getD j default).In) → ∃ j, j < (w.D.set k d).length ∧ ((w.D.set k d).getD j default).Tag = x.Tag ∧ x.P ∈ ((w.D.set k d).getD j default).In := by
    rintro x ⟨j, h1, h2, h3⟩
    refine ⟨j, by simpa using h1, ?_⟩
    rw [getD_set hk]
    by_cases e : j = k
    · subst e
      rw [if_pos rfl]
      exact ⟨ht.trans h2, hi _ h3⟩
    · rw [if_neg e]
      exact ⟨h2, h3⟩
  intro i hlt x hxm
  have hlt' : i < w.D.length := by simpa using hlt
  change x ∈ ((w.D.set k d).getD i default).Ext at hxm
  show x.Tag ≠ ((w.D.set k d).getD i default).Tag ∧ x.P ∉ ((w.D.set k d).getD i default).In ∧ _
  rw [getD_set hk] at hxm ⊢
  by_cases e : i = k
  · rw [if_pos e] at hxm ⊢
    obtain ⟨h1, h2, h3⟩ := hx x hxm
    exact ⟨h1, h2, hj x h3⟩
  · rw [if_neg e] at hxm ⊢
    obtain ⟨h1, h2, h3⟩ := h i hlt' x hxm
    exact ⟨h1, h2, hj x h3⟩

theorem noEcho_own {w : TWorld} (h : InvW w) (he : NoEcho w) (i : Int) (p : TPrefix) : NoEcho (F15_redist_Own w i p).1 := by
  obtain ⟨_, _, h3⟩ := own_both h i (may_all p)
  rcases h3 with h3 | ⟨k, hi, _, _, h3⟩
  · rw [h3]; exact he
  · rw [h3]
    have hk : i.toNat < w.D.length := by omega
    refine noEcho_set he hk rfl (fun q hq => ?_) (fun x hx => ?_)
    · rw [← List.take_append_drop k (w.D.getD i.toNat default).In, List.mem_append] at hq
      simp only [List.mem_append]
      rcases hq with hq | hq
      · exact .inl (.inl hq)
      · exact .inr hq
    · have hx' := List.mem_filter.1 hx
      obtain ⟨h1, h2, h3⟩ := he i.toNat hk x hx'.1
      refine ⟨h1, fun hm => ?_, h3⟩
      simp only [List.mem_append, List.mem_singleton] at hm
      rcases hm with (hm | hm) | hm
      · exact h2 (List.mem_of_mem_take hm)
      · have := hx'.2
        simp [hm] at this
      · exact h2 (List.mem_of_mem_drop hm)

theorem noEcho_cease {w : TWorld} (h : InvW w) (he : NoEcho w) (i : Int) (p : TPrefix) : NoEcho (F19_redist_Cease w i p).1 := by
  by_cases hk : 0 ≤ i ∧ i < (w.D.length : Int)
  · obtain ⟨_, _, h3⟩ := cease_both h i p
    rcases h3 with h3 | h3
    · rw [h3]; exact he
    · rw [h3]
      have hk : i.toNat < w.D.length := by omega
      exact noEcho_set he hk rfl (fun q hq => hq) (fun x hx => he i.toNat hk x (List.mem_filter.1 hx).1)
  · have : (F19_redist_Cease w i p).1 = w := by
      unfold F19_redist_Cease
      simp only [is_eq, hk, decide_false, cond_false]
    rw [this]; exact he

theorem noEcho_tell {w : TWorld} (h : InvW w) (he : NoEcho w) (b : TBorder) (p : TPrefix) : NoEcho (F17_redist_Tell w b p).1 := by
  by_cases ht : ∃ x, Told w b p x
  · obtain ⟨x, ht⟩ := ht
    obtain ⟨_, h2⟩ := tell_told h ht (may_all p)
    rcases h2 with h2 | h2 | ⟨E, h2, h3, h4, h5, h6⟩
    · rw [h2.1]; exact he
    · rw [h2.1]; exact he
    · rw [h2]
      have hto := ht.to
      have hfr := ht.fr
      have hk : b.To.toNat < w.D.length := by omega
      refine noEcho_set he hk rfl (fun q hq => hq) (fun y hy => ?_)
      rcases h4 y hy with rfl | hy
      · refine ⟨ht.tag, ht.own, ?_⟩
        obtain ⟨_, hp, hc⟩ := has_found h ht.has
        rcases hc with ⟨c1, c2⟩ | ⟨c1, c2⟩
        · exact ⟨b.From.toNat, by omega, by rw [c2], c1⟩
        · obtain ⟨_, _, j, j1, j2, j3⟩ := he b.From.toNat (by omega) x c2
          exact ⟨j, j1, j2, hp ▸ j3⟩
      · exact he _ hk y hy
  · rw [(tell_not h b (may_all p) ht).2.1]
    exact he

theorem noEcho_act {w : TWorld} (h : InvW w) (he : NoEcho w) (a : TAct) : NoEcho (actW w a) := by
  unfold actW
  split
  · exact noEcho_own h he _ _
  · split
    · exact noEcho_tell h he _ _
    · split
      · exact noEcho_cease h he _ _
      · exact he

theorem getD_map_mkD (t : List Int) (i : Nat) : ((t.map mkD).getD i default).Ext = [] := by
  rw [List.getD_eq_getElem?_getD, List.getElem?_map]
  cases t[i]? <;> rfl
theorem noEcho_built (tags : List Int) (script : List TAct) : NoEcho (F9_crossroadslaw28_built tags script).1 := by
  refine built_ind (fun i hi => absurd hi (Nat.not_lt_zero i)) (fun t i hi x hx => ?_) (fun a _ v h hq => noEcho_act h hq a)
  rw [getD_map_mkD] at hx
  cases hx

theorem sane_l1 {i3 i7 : Nat} {x3 x7 : TDomain} {x4 : TExt} (hP : x4.P ∉ x3.In) : ∀ (l : List TPrefix) (fr : Bool) (i8 : Nat), (i7 = i3 → l = x3.In.drop i8) → F29_crossroadslaw28_sane_l1 i3 x3 x4 i7 x7 fr i8 l = .ok (fr || decide (x7.Tag = x4.Tag ∧ x4.P ∈ l))
  | [], fr, i8, h => by unfold F29_crossroadslaw28_sane_l1; simp
  | x :: l, fr, i8, h => by
    unfold F29_crossroadslaw28_sane_l1
    simp only [peq_eq]
    have ih := fun fr => sane_l1 (x7 := x7) hP l fr (i8 + 1) (fun e => by
      have := h e
      rw [← List.drop_drop, ← this]
      rfl)
    have hne : i7 = i3 → x3.In.getD i8 default ≠ x4.P := fun e hx => by
      have h1 := h e
      have hlt : i8 < x3.In.length := by
        have : (x3.In.drop i8).length = (x :: l).length := by rw [← h1]
        simp at this
        omega
      rw [List.getD_eq_getElem?_getD, List.getElem?_eq_getElem hlt] at hx
      exact hP (hx ▸ List.getElem_mem hlt)
    have hres : ∀ f : Bool, ((f || decide (x7.Tag = x4.Tag ∧ x = x4.P)) || decide (x7.Tag = x4.Tag ∧ x4.P ∈ l)) = (f || decide (x7.Tag = x4.Tag ∧ x4.P ∈ x :: l)) := by
      intro f
      have hcc : (x = x4.P) ↔ (x4.P = x) := ⟨Eq.symm, Eq.symm⟩
      rw [Bool.eq_iff_iff]
      simp only [Bool.or_eq_true, decide_eq_true_eq, List.mem_cons, hcc]
      constructor
      · rintro ((h | h) | h)
        · exact .inl h
        · exact .inr ⟨h.1, .inl h.2⟩
        · exact .inr ⟨h.1, .inr h.2⟩
      · rintro (h | ⟨h1, h2 | h2⟩)
        · exact .inl (.inl h)
        · exact .inl (.inr ⟨h1, h2⟩)
        · exact .inr ⟨h1, h2⟩
    have hif : ∀ X Y : Except Bool Bool, (bif decide ((i7 : Int) = (i3 : Int)) then (bif decide (x3.In.getD i8 default = x4.P) then X else Y) else Y) = Y := by
      intro X Y
      by_cases e : i7 = i3
      · simp only [decide_eq_false (hne e), cond_false]
        cases decide ((i7 : Int) = (i3 : Int)) <;> rfl
      · have : ¬ (i7 : Int) = (i3 : Int) := by omega
        simp only [this, decide_false, cond_false]
    simp only [hif]
    rw [← hres]
    cases fr with
    | true => simp only [cond_true, ih]; simp
    | false =>
      simp only [cond_false]
      by_cases a1 : x7.Tag = x4.Tag
      · simp only [a1, decide_true, cond_true, ih]; simp
      · simp only [a1, decide_false, cond_false, ih]; simp

theorem sane_l2 {w : TWorld} {i3 : Nat} {x3 : TDomain} {x4 : TExt} (h3 : w.D[i3]? = some x3) (hP : x4.P ∉ x3.In) : ∀ (l : List TDomain) (i7 : Nat) (fr : Bool), w.D.drop i7 = l →
    F29_crossroadslaw28_sane_l2 i3 x3 x4 fr i7 l = .ok (fr || decide (∃ d ∈ l, d.Tag = x4.Tag ∧ x4.P ∈ d.In))
  | [], i7, fr, h => by unfold F29_crossroadslaw28_sane_l2; simp
  | x :: l, i7, fr, h => by
    unfold F29_crossroadslaw28_sane_l2
    have hx : w.D[i7]? = some x := by
      have : (w.D.drop i7)[0]? = some x := by rw [h]; rfl
      simpa using this
    rw [sane_l1 hP x.In fr 0 (fun e => by
      subst e
      rw [hx] at h3
      rw [Option.some.inj h3]
      rfl)]
    have hd : w.D.drop (i7 + 1) = l := by rw [← List.drop_drop, h]; rfl
    simp only [sane_l2 h3 hP l (i7 + 1) _ hd]
    congr 1
    by_cases a1 : x.Tag = x4.Tag ∧ x4.P ∈ x.In <;> by_cases a2 : ∃ d ∈ l, d.Tag = x4.Tag ∧ x4.P ∈ d.In <;> cases fr <;> simp [a1, a2]

theorem sane_l3 {w : TWorld} {i3 : Nat} {x3 : TDomain} (h3 : w.D[i3]? = some x3) : ∀ (l : List TExt), (∀ x ∈ l, x.Tag ≠ x3.Tag ∧ x.P ∉ x3.In ∧ ∃ d ∈ w.D, d.Tag = x.Tag ∧ x.P ∈ d.In) → F29_crossroadslaw28_sane_l3 w i3 x3 l = .ok ()
  | [], h => by unfold F29_crossroadslaw28_sane_l3; rfl
  | x :: l, h => by
    unfold F29_crossroadslaw28_sane_l3
    obtain ⟨h1, h2, h4⟩ := h x List.mem_cons_self
    rw [sane_l2 h3 h2 w.D 0 false rfl]
    simp only [h4, h1, decide_true, decide_false, Bool.false_or, cond_true, cond_false]
    exact sane_l3 h3 l fun y hy => h y (List.mem_cons_of_mem _ hy)

theorem sane_l4 {w : TWorld} (he : NoEcho w) : ∀ (l : List TDomain) (i : Nat), w.D.drop i = l → F29_crossroadslaw28_sane_l4 w i l = .ok ()
  | [], i, h => by unfold F29_crossroadslaw28_sane_l4; rfl
  | x :: l, i, h => by
    unfold F29_crossroadslaw28_sane_l4
    have hx : w.D[i]? = some x := by
      have : (w.D.drop i)[0]? = some x := by rw [h]; rfl
      simpa using this
    have hlt : i < w.D.length := (List.getElem?_eq_some_iff.1 hx).1
    have hg : w.D.getD i default = x := by rw [List.getD_eq_getElem?_getD, hx]; rfl
    have hd : w.D.drop (i + 1) = l := by rw [← List.drop_drop, h]; rfl
    rw [sane_l3 hx x.Ext (fun y hy => by
      obtain ⟨h1, h2, j, j1, j2, j3⟩ := he i hlt y (hg ▸ hy)
      rw [hg] at h1 h2
      refine ⟨h1, h2, w.D.getD j default, ?_, j2, j3⟩
      rw [List.getD_eq_getElem?_getD, List.getElem?_eq_getElem j1]
      exact List.getElem_mem j1)]
    exact sane_l4 he l (i + 1) hd

theorem sane_true {w : TWorld} (he : NoEcho w) : F29_crossroadslaw28_sane w = true := by
  unfold F29_crossroadslaw28_sane
  rw [sane_l4 he w.D 0 rfl]

theorem redistEcho_true (tags : List Int) (script : List TAct) (l : List TBorder) (h0 : ∀ y ∈ tags, InK .u32 y) (h1 : ∀ y ∈ script, TAct.ok y) (h2 : ∀ y ∈ l, TBorder.ok y) : F6_crossroadslaw28_RedistEcho tags script l = true := by
  unfold F6_crossroadslaw28_RedistEcho
  have hw := built_inv tags script
  have he := noEcho_built tags script
  generalize F9_crossroadslaw28_built tags script = r at hw he
  obtain ⟨w, ok⟩ := r
  cases ok with
  | false => simp only [cond_false, alive_true]
  | true =>
    simp only [cond_true]
    by_cases h : (20 : Int) < l.length
    · simp only [h, decide_true, cond_true, alive_true]
    · obtain ⟨_, _, k1, k2, _⟩ := sweep_both hw l
      have hs : NoEcho (F27_redist_Sweep w l).1 := sweep_ind (fun b p v hv hq => noEcho_tell hv hq b p) hw he l
      simp only [h, decide_false, cond_false, alive_true, sane_true he, sane_true hs, k1, k2, decide_true, Bool.and_self]

/-! ### Provider -/
/-- All borders are the provider's: what there is beyond one's own is marked, and was told by a neighbour that has it. -/
def Prov (l : List TAct) (w : TWorld) : Prop := ∀ i, i < w.D.length → ∀ x ∈ (w.D.getD i default).Ext, x.Marked = true ∧
  ∃ a ∈ l, a.Kind = 2 ∧ a.B.To = (i : Int) ∧ a.P = x.P ∧ 0 ≤ a.B.From ∧ a.B.From < (w.D.length : Int) ∧ (w.D.getD a.B.From.toNat default).Tag = x.Tag

theorem prov_set {l : List TAct} {w : TWorld} (h : Prov l w) {k : Nat} (hk : k < w.D.length) {d : TDomain} (ht : d.Tag = (w.D.getD k default).Tag)
    (hx : ∀ x ∈ d.Ext, x.Marked = true ∧ ∃ a ∈ l, a.Kind = 2 ∧ a.B.To = (k : Int) ∧ a.P = x.P ∧ 0 ≤ a.B.From ∧ a.B.From < (w.D.length : Int) ∧ (w.D.getD a.B.From.toNat default).Tag = x.Tag) : Prov l ⟨w.D.set k d⟩ := by
  have htag : ∀ j, ((w.D.set k d).getD j default).Tag = (w.D.getD j default).Tag := by
    intro j
    rw [getD_set hk]
    by_cases e : j = k
    · rw [if_pos e, ht, e]
    · rw [if_neg e]
  intro i hlt x hxm
  have hlt' : i < w.D.length := by simpa using hlt
  change x ∈ ((w.D.set k d).getD i default).Ext at hxm
  show x.Marked = true ∧ ∃ a ∈ l, a.Kind = 2 ∧ a.B.To = (i : Int) ∧ a.P = x.P ∧ 0 ≤ a.B.From ∧ a.B.From < ((w.D.set k d).length : Int) ∧ ((w.D.set k d).getD a.B.From.toNat default).Tag = x.Tag
  simp only [htag, List.length_set]
  rw [getD_set hk] at hxm
  by_cases e : i = k
  · rw [if_pos e] at hxm
    subst e
    exact hx x hxm
  · rw [if_neg e] at hxm
    exact h i hlt' x hxm

theorem prov_act {l : List TAct} {w : TWorld} (h : InvW w) (he : Prov l w) {a : TAct} (ha : a ∈ l) (hp : a.B.Provider = true) : Prov l (actW w a) := by
  unfold actW
  split
  · obtain ⟨_, _, h3⟩ := own_both h a.B.From (may_all a.P)
    rcases h3 with h3 | ⟨k, hi, _, _, h3⟩
    · rw [h3]; exact he
    · rw [h3]
      have hk : a.B.From.toNat < w.D.length := by omega
      exact prov_set he hk rfl (fun x hx => he _ hk x (List.mem_filter.1 hx).1)
  · rename_i hk1
    split
    · rename_i hk2
      by_cases ht : ∃ x, Told w a.B a.P x
      · obtain ⟨x, ht⟩ := ht
        obtain ⟨_, h2⟩ := tell_told h ht (may_all a.P)
        rcases h2 with h2 | h2 | ⟨E, h2, h3, h4, h5, h6⟩
        · rw [h2.1]; exact he
        · rw [h2.1]; exact he
        · rw [h2]
          have hto := ht.to
          have hfr := ht.fr
          have hk : a.B.To.toNat < w.D.length := by omega
          refine prov_set he hk rfl (fun y hy => ?_)
          rcases h4 y hy with rfl | hy
          · refine ⟨hp, a, ha, hk2, by omega, rfl, hfr.1, hfr.2, ?_⟩
            obtain ⟨_, hpp, hc⟩ := has_found h ht.has
            rcases hc with ⟨c1, c2⟩ | ⟨c1, c2⟩
            · rw [c2]
            · have hm := (he a.B.From.toNat (by omega) x c2).1
              have := ht.mrk
              rw [hp, hm] at this
              cases this
          · exact he _ hk y hy
      · rw [(tell_not h a.B (may_all a.P) ht).2.1]
        exact he
    · split
      · by_cases hk : 0 ≤ a.B.From ∧ a.B.From < (w.D.length : Int)
        · obtain ⟨_, _, h3⟩ := cease_both h a.B.From a.P
          rcases h3 with h3 | h3
          · rw [h3]; exact he
          · rw [h3]
            have hk : a.B.From.toNat < w.D.length := by omega
            exact prov_set he hk rfl (fun x hx => he _ hk x (List.mem_filter.1 hx).1)
        · have : (F19_redist_Cease w a.B.From a.P).1 = w := by
            unfold F19_redist_Cease
            simp only [is_eq, hk, decide_false, cond_false]
          rw [this]; exact he
      · exact he

theorem prov_told {w : TWorld} {i : Nat} {x : TExt} : ∀ (l : List TAct) (t : Bool), F3_crossroadslaw28_RedistProvider_l1 w i x t l = (t || decide (∃ a ∈ l, a.Kind = 2 ∧ a.B.To = (i : Int) ∧ a.P = x.P ∧ 0 ≤ a.B.From ∧ a.B.From < (w.D.length : Int) ∧ (w.D.getD a.B.From.toNat default).Tag = x.Tag))
  | [], t => by unfold F3_crossroadslaw28_RedistProvider_l1; simp
  | a :: l, t => by
    unfold F3_crossroadslaw28_RedistProvider_l1
    simp only [peq_eq, prov_told l]
    cases t with
    | true => simp
    | false =>
      simp only [cond_false, Bool.false_or]
      by_cases a1 : a.Kind = 2
      · by_cases a2 : a.B.To = (i : Int)
        · by_cases a3 : a.P = x.P
          · by_cases a4 : 0 ≤ a.B.From
            · by_cases a5 : a.B.From < (w.D.length : Int)
              · by_cases a6 : (w.D.getD a.B.From.toNat default).Tag = x.Tag
                · simp [-List.getD_eq_getElem?_getD, a1, a2, a3, a4, a5, a6]
                · simp [-List.getD_eq_getElem?_getD, a1, a2, a3, a4, a5, a6]
              · simp [-List.getD_eq_getElem?_getD, a1, a2, a3, a4, a5]
            · simp [-List.getD_eq_getElem?_getD, a1, a2, a3, a4]
          · simp [-List.getD_eq_getElem?_getD, a1, a2, a3]
        · simp [-List.getD_eq_getElem?_getD, a1, a2]
      · simp [-List.getD_eq_getElem?_getD, a1]

theorem prov_l4 {l5 : List TAct} {w : TWorld} {i : Nat} : ∀ (l : List TExt), (∀ x ∈ l, x.Marked = true ∧
    ∃ a ∈ l5, a.Kind = 2 ∧ a.B.To = (i : Int) ∧ a.P = x.P ∧ 0 ≤ a.B.From ∧ a.B.From < (w.D.length : Int) ∧ (w.D.getD a.B.From.toNat default).Tag = x.Tag) → F3_crossroadslaw28_RedistProvider_l4 l5 w i l = .ok ()
  | [], h => by unfold F3_crossroadslaw28_RedistProvider_l4; rfl
  | x :: l, h => by
    unfold F3_crossroadslaw28_RedistProvider_l4
    obtain ⟨h1, h2⟩ := h x List.mem_cons_self
    simp only [prov_told, h1, h2, decide_true, Bool.or_true, cond_true]
    exact prov_l4 l fun y hy => h y (List.mem_cons_of_mem _ hy)
theorem prov_l5 {l5 : List TAct} {w : TWorld} (he : Prov l5 w) : ∀ (l : List TDomain) (i : Nat), w.D.drop i = l → F3_crossroadslaw28_RedistProvider_l5 l5 w i l = .ok ()
  | [], i, h => by unfold F3_crossroadslaw28_RedistProvider_l5; rfl
  | x :: l, i, h => by
    unfold F3_crossroadslaw28_RedistProvider_l5
    have hx : w.D[i]? = some x := by
      have : (w.D.drop i)[0]? = some x := by rw [h]; rfl
      simpa using this
    have hlt : i < w.D.length := (List.getElem?_eq_some_iff.1 hx).1
    have hg : w.D.getD i default = x := by rw [List.getD_eq_getElem?_getD, hx]; rfl
    have hd : w.D.drop (i + 1) = l := by rw [← List.drop_drop, h]; rfl
    rw [prov_l4 x.Ext (fun y hy => he i hlt y (hg ▸ hy))]
    exact prov_l5 he l (i + 1) hd

/-- All borders are made the provider's. -/
theorem prov_l6 : ∀ (fuel i : Nat) (l : List TAct), l.length ≤ 1000 → l.length - i < fuel → (∀ j a, j < i → l[j]? = some a → a.B.Provider = true) →
    ∃ n, F3_crossroadslaw28_RedistProvider_l6 fuel i l = (n, (F3_crossroadslaw28_RedistProvider_l6 fuel i l).2) ∧ ∀ a ∈ (F3_crossroadslaw28_RedistProvider_l6 fuel i l).2, a.B.Provider = true
  | 0, i, l, hm, hf, h => absurd hf (Nat.not_lt_zero _)
  | fuel + 1, i, l, hm, hf, h => by
    refine ⟨_, rfl, ?_⟩
    unfold F3_crossroadslaw28_RedistProvider_l6
    by_cases hi : i < l.length
    · have hi' : (i : Int) < (l.length : Int) := by omega
      have hw : IntKind.i64.wrap ((i : Int) + 1) = ((i + 1 : Nat) : Int) := by rw [wi64 (by omega) (by omega)]; omega
      simp only [hi', decide_true, cond_true, hw, Int.toNat_natCast]
      obtain ⟨_, _, k⟩ := prov_l6 fuel (i + 1) (l.set i ⟨(l.getD i default).Kind, ⟨(l.getD i default).B.From, (l.getD i default).B.To, true⟩, (l.getD i default).P⟩) (by simpa using hm) (by simp; omega) (fun j a hj ha => by
        rw [List.getElem?_set] at ha
        by_cases e : i = j
        · rw [if_pos e, if_pos hi] at ha
          rw [← Option.some.inj ha]
        · rw [if_neg e] at ha
          exact h j a (by omega) ha)
      exact k
    · have hi' : ¬ (i : Int) < (l.length : Int) := by omega
      simp only [hi', decide_false, cond_false]
      intro a ha
      obtain ⟨j, hj, rfl⟩ := List.getElem_of_mem ha
      exact h j _ (by omega) (List.getElem?_eq_getElem hj)

theorem redistProvider_true (tags : List Int) (script : List TAct) (h0 : ∀ y ∈ tags, InK .u32 y) (h1 : ∀ y ∈ script, TAct.ok y) : F3_crossroadslaw28_RedistProvider tags script = true := by
  unfold F3_crossroadslaw28_RedistProvider
  by_cases h : (100 : Int) < script.length
  · simp only [h, decide_true, cond_true, alive_true]
  · obtain ⟨n, _, hl⟩ := prov_l6 (((script.length : Int) - 0).toNat + 1) 0 script (by omega) (by omega) (fun j a hj => absurd hj (Nat.not_lt_zero _))
    simp only [h, decide_false, cond_false]
    rw [show ((0 : Nat) : Int) = 0 from rfl] at hl
    generalize (F3_crossroadslaw28_RedistProvider_l6 (((script.length : Int) - 0).toNat + 1) 0 script) = r at hl
    obtain ⟨i6, l5⟩ := r
    dsimp only at hl ⊢
    have he : Prov l5 (F9_crossroadslaw28_built tags l5).1 := built_ind (fun i hi => absurd hi (Nat.not_lt_zero i)) (fun t i hi x hx => by
      rw [getD_map_mkD] at hx
      cases hx) (fun a ha v hv hq => prov_act hv hq ha (hl a ha))
    generalize F9_crossroadslaw28_built tags l5 = r at he
    obtain ⟨w, ok⟩ := r
    cases ok with
    | false => simp only [cond_false, alive_true]
    | true => simp only [cond_true, prov_l5 he w.D 0 rfl, alive_true]

/-! ### Twice -/
theorem has_congr {w v : TWorld} (hw : InvW w) (hv : InvW v) {i : Int} {p : TPrefix} (hl : v.D.length = w.D.length) (hd : v.D.getD i.toNat default = w.D.getD i.toNat default) : F21_redist_Has v i p = F21_redist_Has w i p := by
  rw [has_eq hv, has_eq hw]
  by_cases hi : 0 ≤ i ∧ i < (w.D.length : Int)
  · rw [has_ref p (by rw [hl]; exact hi), has_ref p hi, hd]
  · rw [has_out p (by rw [hl]; exact hi), has_out p hi]

theorem tell_twice {w : TWorld} (h : InvW w) (b : TBorder) (p : TPrefix) : F17_redist_Tell (F17_redist_Tell w b p).1 b p = ((F17_redist_Tell w b p).1, false, (F17_redist_Tell w b p).2.2) := by
  have same : (F17_redist_Tell w b p).1 = w → (F17_redist_Tell w b p).2.1 = false → F17_redist_Tell (F17_redist_Tell w b p).1 b p = ((F17_redist_Tell w b p).1, false, (F17_redist_Tell w b p).2.2) := by
    intro h1 h2
    rw [h1]
    conv => lhs; rw [show F17_redist_Tell w b p = ((F17_redist_Tell w b p).1, (F17_redist_Tell w b p).2.1, (F17_redist_Tell w b p).2.2) from rfl, h1, h2]
  by_cases ht : ∃ x, Told w b p x
  · obtain ⟨x, ht⟩ := ht
    obtain ⟨_, h2⟩ := tell_told h ht (may_all p)
    rcases h2 with h2 | h2 | ⟨E, h2, h3, h4, h5, h6⟩
    · exact same (by rw [h2.1]) (by rw [h2.1])
    · exact same (by rw [h2.1]) (by rw [h2.1])
    · have hto := ht.to
      have hfr := ht.fr
      have hne := ht.ne
      have hk : b.To.toNat < w.D.length := by omega
      rw [h2]
      dsimp only
      have hv := inv_set h b.To.toNat h3
      have hgt : (w.D.set b.To.toNat ⟨(w.D.getD b.To.toNat default).Tag, (w.D.getD b.To.toNat default).In, E⟩).getD b.To.toNat default = ⟨(w.D.getD b.To.toNat default).Tag, (w.D.getD b.To.toNat default).In, E⟩ := by rw [getD_set hk, if_pos rfl]
      have hgf : (w.D.set b.To.toNat ⟨(w.D.getD b.To.toNat default).Tag, (w.D.getD b.To.toNat default).In, E⟩).getD b.From.toNat default = w.D.getD b.From.toNat default := by rw [getD_set hk, if_neg (by omega)]
      have ht2 : Told ⟨w.D.set b.To.toNat ⟨(w.D.getD b.To.toNat default).Tag, (w.D.getD b.To.toNat default).In, E⟩⟩ b p x := by
        refine ⟨by simpa using hfr, by simpa using hto, hne, ht.may, ?_, ?_, ?_, ht.mrk⟩
        · rw [has_congr h hv (by simp) hgf]; exact ht.has
        · show p ∉ ((w.D.set b.To.toNat ⟨(w.D.getD b.To.toNat default).Tag, (w.D.getD b.To.toNat default).In, E⟩).getD b.To.toNat default).In
          rw [hgt]; exact ht.own
        · show x.Tag ≠ ((w.D.set b.To.toNat ⟨(w.D.getD b.To.toNat default).Tag, (w.D.getD b.To.toNat default).In, E⟩).getD b.To.toNat default).Tag
          rw [hgt]; exact ht.tag
      obtain ⟨_, g2⟩ := tell_told hv ht2 (may_all p)
      dsimp only at g2
      rw [hgt] at g2
      rcases g2 with g2 | g2 | ⟨E', _, _, _, _, g6⟩
      · exact g2.1
      · exact absurd ⟨_, h5, rfl⟩ g2.2.1
      · exact absurd h5 g6
  · obtain ⟨_, h1, h2⟩ := tell_not h b (may_all p) ht
    exact same h1 h2

theorem tell_still {w : TWorld} (h : InvW w) {b : TBorder} {p : TPrefix} (hf : (F17_redist_Tell w b p).2.1 = false) : (F17_redist_Tell w b p).1 = w := by
  by_cases ht : ∃ x, Told w b p x
  · obtain ⟨x, ht⟩ := ht
    obtain ⟨_, h2⟩ := tell_told h ht (may_all p)
    rcases h2 with h2 | h2 | ⟨E, h2, _⟩
    · rw [h2.1]
    · rw [h2.1]
    · rw [h2] at hf
      cases hf
  · exact (tell_not h b (may_all p) ht).2.1

theorem still_l1 (b : TBorder) : ∀ (l : List TPrefix) {w v : TWorld} (c : Bool), InvW w → F51_redist_once_l1 b c w l = (false, v) → c = false ∧ v = w ∧ ∀ p ∈ l, (F17_redist_Tell w b p).2.1 = false
  | [], w, v, c, h, e => by
    unfold F51_redist_once_l1 at e
    injection e with e1 e2
    exact ⟨e1, e2.symm, fun p hp => by cases hp⟩
  | p :: l, w, v, c, h, e => by
    unfold F51_redist_once_l1 at e
    cases c with
    | true =>
      have := (still_l1 b l true (tell_inv h b p) e).1
      cases this
    | false =>
      obtain ⟨h1, h2, h3⟩ := still_l1 b l _ (tell_inv h b p) e
      have hs := tell_still h h1
      rw [hs] at h2 h3
      refine ⟨rfl, h2, fun q hq => ?_⟩
      rcases List.mem_cons.1 hq with rfl | hq
      · exact h1
      · exact h3 q hq

theorem still_l2 : ∀ (l : List TBorder) {w v : TWorld} (c : Bool), InvW w → F51_redist_once_l2 c w l = (false, v) → c = false ∧ v = w ∧ ∀ b ∈ l, (0 ≤ b.From ∧ b.From < (w.D.length : Int)) → ∀ p ∈ (w.D.getD b.From.toNat default).In ++ (w.D.getD b.From.toNat default).Ext.map (·.P), (F17_redist_Tell w b p).2.1 = false
  | [], w, v, c, h, e => by
    unfold F51_redist_once_l2 at e
    injection e with e1 e2
    exact ⟨e1, e2.symm, fun p hp => by cases hp⟩
  | b :: l, w, v, c, h, e => by
    unfold F51_redist_once_l2 at e
    simp only [is_eq, tells_eq] at e
    by_cases hi : 0 ≤ b.From ∧ b.From < (w.D.length : Int)
    · simp only [hi, decide_true, cond_true, and_self] at e
      have e1 := once_l1 b ((w.D.getD b.From.toNat default).In ++ (w.D.getD b.From.toNat default).Ext.map (·.P)) c h
      obtain ⟨g1, g2, g3⟩ := still_l2 l _ e1.2 e
      have e2 : F51_redist_once_l1 b c w ((w.D.getD b.From.toNat default).In ++ (w.D.getD b.From.toNat default).Ext.map (·.P)) = (false, (F51_redist_once_l1 b c w ((w.D.getD b.From.toNat default).In ++ (w.D.getD b.From.toNat default).Ext.map (·.P))).2) := by rw [← g1]
      obtain ⟨k1, k2, k3⟩ := still_l1 b _ c h e2
      rw [k2] at g2 g3
      refine ⟨k1, g2, fun b' hb => ?_⟩
      rcases List.mem_cons.1 hb with rfl | hb
      · exact fun _ => k3
      · exact g3 b' hb
    · simp only [hi, decide_false, cond_false] at e
      obtain ⟨g1, g2, g3⟩ := still_l2 l c h e
      refine ⟨g1, g2, fun b' hb => ?_⟩
      rcases List.mem_cons.1 hb with rfl | hb
      · exact fun h => absurd h hi
      · exact g3 b' hb

theorem still_all {u v : TWorld} {l : List TBorder} (h : InvW u) (e : F51_redist_once u l = (v, false)) : v = u ∧ ∀ b ∈ l, ∀ p, (F17_redist_Tell u b p).2.1 = false := by
  have e2 : F51_redist_once_l2 false u l = (false, v) := by
    have : F51_redist_once u l = ((F51_redist_once_l2 false u l).2, (F51_redist_once_l2 false u l).1) := rfl
    rw [this] at e
    injection e with e1 e2
    exact Prod.ext e2 e1
  obtain ⟨_, h2, h3⟩ := still_l2 l false h e2
  refine ⟨h2, fun b hb p => ?_⟩
  by_cases ht : ∃ x, Told u b p x
  · obtain ⟨x, ht⟩ := ht
    refine h3 b hb ht.fr p ?_
    obtain ⟨_, hp, hc⟩ := has_found h ht.has
    rw [List.mem_append]
    rcases hc with ⟨c1, _⟩ | ⟨_, c2⟩
    · exact .inl c1
    · exact .inr (List.mem_map.2 ⟨x, c2, hp⟩)
  · exact (tell_not h b (may_all p) ht).2.2

theorem twice_l2 {w : TWorld} (h : InvW w) : ∀ l : List TAct, F7_crossroadslaw28_RedistTwice_l2 w l = .ok ()
  | [] => by unfold F7_crossroadslaw28_RedistTwice_l2; rfl
  | a :: l => by
    unfold F7_crossroadslaw28_RedistTwice_l2
    simp only [tell_twice h, wsame_eq, decide_true, cond_true, cond_false]
    exact twice_l2 h l

theorem twice_l1 {script : List TAct} {v : TWorld} : ∀ (l : List TBorder) (i : Nat), (∀ b ∈ l, ∀ p, (F17_redist_Tell v b p).2.1 = false) → F7_crossroadslaw28_RedistTwice_l1 script v i l = .ok ()
  | [], i, h => by unfold F7_crossroadslaw28_RedistTwice_l1; rfl
  | b :: l, i, h => by
    unfold F7_crossroadslaw28_RedistTwice_l1
    by_cases hi : (i : Int) < (script.length : Int)
    · simp only [hi, decide_true, cond_true, h b List.mem_cons_self, cond_false]
      exact twice_l1 l (i + 1) fun c hc => h c (List.mem_cons_of_mem _ hc)
    · simp only [hi, decide_false, cond_false]

theorem redistTwice_true (tags : List Int) (script : List TAct) (l : List TBorder) (h0 : ∀ y ∈ tags, InK .u32 y) (h1 : ∀ y ∈ script, TAct.ok y) (h2 : ∀ y ∈ l, TBorder.ok y) : F7_crossroadslaw28_RedistTwice tags script l = true := by
  unfold F7_crossroadslaw28_RedistTwice
  have hw := built_inv tags script
  generalize F9_crossroadslaw28_built tags script = r at hw
  obtain ⟨w, ok⟩ := r
  cases ok with
  | false => simp only [cond_false, alive_true]
  | true =>
    simp only [cond_true]
    by_cases h : (20 : Int) < l.length
    · simp only [h, decide_true, cond_true, alive_true]
    · simp only [h, decide_false, cond_false, twice_l2 hw]
      obtain ⟨_, _, _, _, k⟩ := sweep_both hw l
      by_cases hm : (F27_redist_Sweep w l).2 < 64
      · obtain ⟨u, hu, e⟩ := k hm
        obtain ⟨e1, e2⟩ := still_all hu e
        have := twice_l1 (script := script) l 0 (v := (F27_redist_Sweep w l).1) (by rw [e1]; exact e2)
        simp only [hm, decide_true, cond_true, this, alive_true]
      · simp only [hm, decide_false, cond_false, alive_true]
end Go.Proofs.Ytlemcljcmfphcaa.Abs
