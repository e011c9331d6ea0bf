/- New worlds, runs and sweeps: the program's and the document's are one; alike is equal. Plain law: no program in sight. -/
import Derived.Test.YtlemcljcmfphcaaL2
import Derived.Test.YtlemcljcmfphcaaL0
set_option linter.unusedVariables false
set_option linter.unusedSimpArgs false
namespace Go.Proofs.Ytlemcljcmfphcaa.Abs
open Go

/-! ### A world as the document's is that world -/
theorem plain_l1 : ∀ (l out : List TExt), F13_crossroadslaw28_plain_l1 out l = out ++ l
  | [], out => by simp [F13_crossroadslaw28_plain_l1]
  | x :: l, out => by
    unfold F13_crossroadslaw28_plain_l1
    simp only [F23_crossroadslaw28_ext, plain_l1 l]
    simp
theorem plain_l2 : ∀ (l out : List TDomain), F13_crossroadslaw28_plain_l2 out l = out ++ l
  | [], out => by simp [F13_crossroadslaw28_plain_l2]
  | x :: l, out => by
    unfold F13_crossroadslaw28_plain_l2
    simp only [plain_l1, plain_l2 l]
    simp
theorem plain_eq (w : TWorld) : F13_crossroadslaw28_plain w = w := by
  unfold F13_crossroadslaw28_plain
  rw [plain_l2]
  simp

/-! ### Alike -/
theorem same_l1 (b : TWorld) (k : Nat) : ∀ (l : List TExt) (i : Nat), l.length + i = (b.D.getD k default).Ext.length → F12_crossroadsref28_Same_l1 b k i l = if l = (b.D.getD k default).Ext.drop i then .ok () else .error false
  | [], i, h => by
    have : (b.D.getD k default).Ext.drop i = [] := List.drop_eq_nil_of_le (by simp only [List.length_nil] at h; omega)
    unfold F12_crossroadsref28_Same_l1
    rw [this]
    rfl
  | x :: l, i, h => by
    simp only [List.length_cons] at h
    unfold F12_crossroadsref28_Same_l1
    rw [drop_getD (k := i) (by omega), same_l1 b k l (i + 1) (by omega), ext_eq x _ _]
    generalize (b.D.getD k default).Ext.getD i default = y
    by_cases h1 : x = y
    · simp [h1]
    · simp [h1]
theorem same_l2 (b : TWorld) (k : Nat) : ∀ (l : List TPrefix) (i : Nat), l.length + i = (b.D.getD k default).In.length → F12_crossroadsref28_Same_l2 b k i l = if l = (b.D.getD k default).In.drop i then .ok () else .error false
  | [], i, h => by
    have : (b.D.getD k default).In.drop i = [] := List.drop_eq_nil_of_le (by simp only [List.length_nil] at h; omega)
    unfold F12_crossroadsref28_Same_l2
    rw [this]
    rfl
  | x :: l, i, h => by
    simp only [List.length_cons] at h
    unfold F12_crossroadsref28_Same_l2
    rw [drop_getD (k := i) (by omega), same_l2 b k l (i + 1) (by omega), peq_eq x _]
    generalize (b.D.getD k default).In.getD i default = y
    by_cases h1 : x = y
    · simp [h1]
    · simp [h1]
theorem dom_ext {a b : TDomain} (h1 : a.Tag = b.Tag) (h2 : a.In = b.In) (h3 : a.Ext = b.Ext) : a = b := by
  cases a; cases b; simp_all
theorem same_l3 (b : TWorld) : ∀ (l : List TDomain) (i : Nat), l.length + i = b.D.length → F12_crossroadsref28_Same_l3 b i l = if l = b.D.drop i then .ok () else .error false
  | [], i, h => by
    have : b.D.drop i = [] := List.drop_eq_nil_of_le (by simp only [List.length_nil] at h; omega)
    unfold F12_crossroadsref28_Same_l3
    rw [this]
    rfl
  | x :: l, i, h => by
    simp only [List.length_cons] at h
    unfold F12_crossroadsref28_Same_l3
    rw [drop_getD (k := i) (by omega), same_l3 b l (i + 1) (by omega)]
    have e1 := same_l1 b i x.Ext 0
    have e2 := same_l2 b i x.In 0
    generalize b.D.getD i default = y at e1 e2
    by_cases h1 : x.Tag = y.Tag
    · by_cases h2 : x.In.length = y.In.length
      · by_cases h3 : x.Ext.length = y.Ext.length
        · have h2' : (x.In.length : Int) = (y.In.length : Int) := by omega
          have h3' : (x.Ext.length : Int) = (y.Ext.length : Int) := by omega
          rw [e1 (by omega), e2 (by omega)]
          simp only [h1, h2', h3', decide_true, cond_true, List.drop_zero]
          by_cases h4 : x.In = y.In
          · by_cases h5 : x.Ext = y.Ext
            · have : x = y := dom_ext h1 h4 h5
              simp [this]
            · have : x ≠ y := fun e => h5 (by rw [e])
              simp [h4, h5, this]
          · have : x ≠ y := fun e => h4 (by rw [e])
            simp [h4, this]
        · have h2' : (x.In.length : Int) = (y.In.length : Int) := by omega
          have h3' : ¬ (x.Ext.length : Int) = (y.Ext.length : Int) := by omega
          have : x ≠ y := fun e => h3 (by rw [e])
          simp only [h1, h2', h3', decide_true, decide_false, cond_true, cond_false]
          simp [this]
      · have h2' : ¬ (x.In.length : Int) = (y.In.length : Int) := by omega
        have : x ≠ y := fun e => h2 (by rw [e])
        simp only [h1, h2', decide_true, decide_false, cond_true, cond_false]
        simp [this]
    · have : x ≠ y := fun e => h1 (by rw [e])
      simp only [h1, decide_false, cond_false]
      simp [this]
theorem same_eq (a b : TWorld) : F12_crossroadsref28_Same a b = decide (a = b) := by
  unfold F12_crossroadsref28_Same
  by_cases h : a.D.length = b.D.length
  · have h' : (a.D.length : Int) = (b.D.length : Int) := by omega
    rw [same_l3 b a.D 0 (by omega)]
    by_cases h1 : a.D = b.D
    · have : a = b := by cases a; cases b; simp_all
      simp [h', h1, this]
    · have : a ≠ b := fun e => h1 (by rw [e])
      simp [h', h1, this]
  · have h' : ¬ (a.D.length : Int) = (b.D.length : Int) := by omega
    have : a ≠ b := fun e => h (by rw [e])
    simp [h', this]

theorem eq49_l1 (s : List TPrefix) : ∀ (l : List TPrefix) (i : Nat), l.length + i = s.length → F49_slices_Equal_l1 s i l = if l = s.drop i then .ok () else .error false
  | [], i, h => by
    have : s.drop i = [] := List.drop_eq_nil_of_le (by simp only [List.length_nil] at h; omega)
    unfold F49_slices_Equal_l1
    rw [this]
    rfl
  | x :: l, i, h => by
    simp only [List.length_cons] at h
    unfold F49_slices_Equal_l1
    rw [drop_getD (k := i) (by omega), eq49_l1 s l (i + 1) (by omega), peq_eq x _]
    generalize s.getD i default = y
    by_cases h1 : x = y
    · simp [h1]
    · simp [h1]
theorem eq49 (a b : List TPrefix) : F49_slices_Equal a b = decide (a = b) := by
  unfold F49_slices_Equal
  by_cases h : a.length = b.length
  · have h' : (a.length : Int) = (b.length : Int) := by omega
    rw [eq49_l1 b a 0 (by omega)]
    by_cases h1 : a = b
    · simp [h1]
    · simp [h', h1]
  · have h' : ¬ (a.length : Int) = (b.length : Int) := by omega
    have : a ≠ b := fun e => h (by rw [e])
    simp [h', this]
theorem eq50_l1 (s : List TExt) : ∀ (l : List TExt) (i : Nat), l.length + i = s.length → F50_slices_Equal_l1 s i l = if l = s.drop i then .ok () else .error false
  | [], i, h => by
    have : s.drop i = [] := List.drop_eq_nil_of_le (by simp only [List.length_nil] at h; omega)
    unfold F50_slices_Equal_l1
    rw [this]
    rfl
  | x :: l, i, h => by
    simp only [List.length_cons] at h
    unfold F50_slices_Equal_l1
    rw [drop_getD (k := i) (by omega), eq50_l1 s l (i + 1) (by omega), ext_eq x _ _]
    generalize s.getD i default = y
    by_cases h1 : x = y
    · simp [h1]
    · simp [h1]
theorem eq50 (a b : List TExt) : F50_slices_Equal a b = decide (a = b) := by
  unfold F50_slices_Equal
  by_cases h : a.length = b.length
  · have h' : (a.length : Int) = (b.length : Int) := by omega
    rw [eq50_l1 b a 0 (by omega)]
    by_cases h1 : a = b
    · simp [h1]
    · simp [h', h1]
  · have h' : ¬ (a.length : Int) = (b.length : Int) := by omega
    have : a ≠ b := fun e => h (by rw [e])
    simp [h', this]
theorem dsame_eq (x y : TDomain) : F48_redist_Same_1 x y = decide (x = y) := by
  unfold F48_redist_Same_1
  rw [eq49, eq50]
  by_cases h1 : x.Tag = y.Tag
  · by_cases h2 : x.In = y.In
    · by_cases h3 : x.Ext = y.Ext
      · have : x = y := dom_ext h1 h2 h3
        simp [this]
      · have : x ≠ y := fun e => h3 (by rw [e])
        simp [h3, this]
    · have : x ≠ y := fun e => h2 (by rw [e])
      simp [h2, this]
  · have : x ≠ y := fun e => h1 (by rw [e])
    simp [h1, this]
theorem eq47_l1 (s : List TDomain) : ∀ (l : List TDomain) (i : Nat), l.length + i = s.length → F47_slices_EqualFunc_l1 s (fun y0 y1 => F48_redist_Same_1 y0 y1) i l = if l = s.drop i then .ok () else .error false
  | [], i, h => by
    have : s.drop i = [] := List.drop_eq_nil_of_le (by simp only [List.length_nil] at h; omega)
    unfold F47_slices_EqualFunc_l1
    rw [this]
    rfl
  | x :: l, i, h => by
    simp only [List.length_cons] at h
    unfold F47_slices_EqualFunc_l1
    simp only [dsame_eq]
    rw [drop_getD (k := i) (by omega)]
    have ih := eq47_l1 s l (i + 1) (by omega)
    simp only [dsame_eq] at ih
    rw [ih]
    generalize s.getD i default = y
    by_cases h1 : x = y
    · simp [h1]
    · simp [h1]
theorem wsame_eq (a b : TWorld) : F26_redist_Same a b = decide (a = b) := by
  unfold F26_redist_Same F47_slices_EqualFunc
  by_cases h : a.D.length = b.D.length
  · have h' : (a.D.length : Int) = (b.D.length : Int) := by omega
    rw [eq47_l1 b.D a.D 0 (by omega)]
    by_cases h1 : a.D = b.D
    · have : a = b := by cases a; cases b; simp_all
      simp [h', h1, this]
    · have : a ≠ b := fun e => h1 (by rw [e])
      simp [h', h1, this]
  · have h' : ¬ (a.D.length : Int) = (b.D.length : Int) := by omega
    have : a ≠ b := fun e => h (by rw [e])
    simp [h', this]

/-! ### New worlds -/
def goodT : List Int → List Int → Bool
  | _, [] => true
  | done, x :: l => !decide (x = 0 ∨ x ∈ done) && goodT (done ++ [x]) l

def mkD (t : Int) : TDomain := ⟨t, [], []⟩

theorem find_set {M : List (Int × Bool)} (q k : Int) (v : Bool) : findM (setM M k v) q = if q = k then some v else findM M q := by
  induction M with
  | nil => by_cases h : q = k <;> simp [setM, findM, h]
  | cons a M ih =>
    obtain ⟨a, b⟩ := a
    by_cases h : k = a
    · subst h
      by_cases h2 : q = k <;> simp [setM, findM, h2]
    · by_cases h2 : q = a
      · subst h2
        have : ¬ q = k := fun e => h e.symm
        simp [setM, findM, h, this]
      · simp [setM, findM, h, h2, ih]

theorem new_l1 : ∀ (l done : List Int) (seen : List (Int × Bool)) (row : List TDomain), (∀ q, (findM seen q).getD false = decide (q = 0 ∨ q ∈ done)) →
    (goodT done l = false → F10_redist_New_l1 seen row l = .error (⟨[]⟩, 1)) ∧ (goodT done l = true → ∃ s, F10_redist_New_l1 seen row l = .ok (s, row ++ l.map mkD))
  | [], done, seen, row, h => by simp [goodT, F10_redist_New_l1]
  | x :: l, done, seen, row, h => by
    unfold F10_redist_New_l1 goodT
    rw [h x]
    by_cases hx : x = 0 ∨ x ∈ done
    · simp [hx]
    · obtain ⟨h1, h2⟩ := new_l1 l (done ++ [x]) (setM seen x true) (row ++ [mkD x]) (fun q => by
        rw [find_set]
        by_cases hq : q = x
        · simp [hq]
        · rw [if_neg hq, h q]
          simp [hq])
      simp only [hx, decide_false, cond_false, Bool.not_false, Bool.true_and]
      refine ⟨h1, fun hg => ?_⟩
      obtain ⟨s, hs⟩ := h2 hg
      exact ⟨s, by simpa [mkD] using hs⟩

theorem new_eq (tags : List Int) : F10_redist_New tags = if 1 ≤ tags.length ∧ tags.length ≤ 8 ∧ goodT [] tags = true then (⟨tags.map mkD⟩, 0) else (⟨[]⟩, 1) := by
  unfold F10_redist_New
  obtain ⟨h1, h2⟩ := new_l1 tags [] (setM [] 0 true) [] (fun q => by
    simp only [setM, findM]
    by_cases hq : q = 0 <;> simp [hq])
  cases hg : goodT [] tags with
  | false =>
    rw [h1 hg]
    simp
  | true =>
    obtain ⟨s, hs⟩ := h2 hg
    rw [hs]
    by_cases h3 : tags.length = 0
    · have h3' : (tags.length : Int) = 0 := by omega
      have : ¬ (1 ≤ tags.length ∧ tags.length ≤ 8 ∧ True) := by omega
      simp only [h3', decide_true, cond_true]
      rw [if_neg (by omega)]
    · have h3' : ¬ (tags.length : Int) = 0 := by omega
      by_cases h4 : 8 < tags.length
      · have h4' : (8 : Int) < (tags.length : Int) := by omega
        simp only [h3', h4', decide_true, decide_false, cond_true, cond_false]
        rw [if_neg (by omega)]
      · have h4' : ¬ (8 : Int) < (tags.length : Int) := by omega
        simp only [h3', h4', decide_false, cond_false]
        rw [if_pos ⟨by omega, by omega, trivial⟩]
        simp

theorem refnew_l1 (done l : List Int) (x : Int) : ∀ (fuel i : Nat), i ≤ done.length → done.length - i ≤ fuel → done.length ≤ 1000 →
    F11_crossroadsref28_New_l1 (done ++ x :: l) done.length x fuel i = if x ∈ done.drop i then .error (⟨[]⟩, 1) else .ok ()
  | fuel, i, hi, hf, hm => by
    unfold F11_crossroadsref28_New_l1
    by_cases h : i < done.length
    · have h' : (i : Int) < (done.length : Int) := by omega
      match fuel, hf with
      | 0, hf => exact absurd hf (by omega)
      | fuel + 1, hf =>
        have hg : (done ++ x :: l).getD i default = done.getD i default := by
          simp [List.getElem?_append_left h]
        have hw : IntKind.i64.wrap ((i : Int) + 1) = ((i + 1 : Nat) : Int) := by rw [wi64 (by omega) (by omega)]; omega
        simp only [h', decide_true, cond_true, Int.toNat_natCast, hg, hw]
        rw [refnew_l1 done l x fuel (i + 1) (by omega) (by omega) hm, drop_getD (L := done) h]
        by_cases hx : x = done.getD i default
        · simp [-List.getD_eq_getElem?_getD, hx]
        · have hx' : ¬ x = done.getD i 0 := hx
          simp [-List.getD_eq_getElem?_getD, hx']
    · have h' : ¬ (i : Int) < (done.length : Int) := by omega
      have : done.drop i = [] := List.drop_eq_nil_of_le (by omega)
      simp only [h', decide_false, cond_false, this]
      simp

theorem refnew_l2 : ∀ (l done : List Int) (row : List TDomain), done.length + l.length ≤ 1000 →
    F11_crossroadsref28_New_l2 (done ++ l) row done.length l = if goodT done l = true then .ok (row ++ l.map mkD) else .error (⟨[]⟩, 1)
  | [], done, row, h => by simp [goodT, F11_crossroadsref28_New_l2]
  | x :: l, done, row, h => by
    simp only [List.length_cons] at h
    unfold F11_crossroadsref28_New_l2 goodT
    have hfu : fuelUp 0 (done.length : Int) = done.length := by unfold fuelUp; rw [if_pos (by omega)]; omega
    have e := refnew_l1 done l x done.length 0 (Nat.zero_le _) (by omega) (by omega)
    rw [hfu]
    rw [show ((0 : Nat) : Int) = 0 from rfl, List.drop_zero] at e
    rw [e]
    by_cases h1 : x ∈ done
    · simp [h1]
    · by_cases h2 : x = 0
      · rw [if_neg h1]
        simp [h2]
      · have ih := refnew_l2 l (done ++ [x]) (row ++ [mkD x]) (by simp; omega)
        rw [List.append_assoc, List.singleton_append, List.length_append, List.length_singleton] at ih
        simp only [h1, h2, if_false, decide_false, cond_false, or_self, Bool.not_false, Bool.true_and]
        rw [show (⟨x, [], []⟩ : TDomain) = mkD x from rfl, ih]
        simp

theorem refnew_eq (tags : List Int) : F11_crossroadsref28_New tags = if 1 ≤ tags.length ∧ tags.length ≤ 8 ∧ goodT [] tags = true then (⟨tags.map mkD⟩, 0) else (⟨[]⟩, 1) := by
  unfold F11_crossroadsref28_New
  by_cases h1 : tags.length < 1
  · have h1' : (tags.length : Int) < 1 := by omega
    simp only [h1', decide_true, cond_true]
    rw [if_neg (by omega)]
  · have h1' : ¬ (tags.length : Int) < 1 := by omega
    by_cases h2 : 8 < tags.length
    · have h2' : (8 : Int) < (tags.length : Int) := by omega
      simp only [h1', h2', decide_true, decide_false, cond_true, cond_false]
      rw [if_neg (by omega)]
    · have h2' : ¬ (8 : Int) < (tags.length : Int) := by omega
      simp only [h1', h2', decide_false, cond_false]
      have := refnew_l2 tags [] [] (by simp; omega)
      simp only [List.nil_append, List.length_nil] at this
      rw [this]
      cases hg : goodT [] tags with
      | false => simp
      | true => rw [if_pos rfl, if_pos ⟨by omega, by omega, rfl⟩]

theorem new_both (tags : List Int) : F10_redist_New tags = F11_crossroadsref28_New tags := by rw [new_eq, refnew_eq]

theorem new_inv (tags : List Int) : InvW (F10_redist_New tags).1 := by
  rw [new_eq]
  split
  · rename_i h
    refine ⟨by simpa using h.2.1, fun d hd => ?_⟩
    obtain ⟨t, _, rfl⟩ := List.mem_map.1 hd
    exact ⟨List.Pairwise.nil, List.Pairwise.nil, Nat.zero_le _, Nat.zero_le _⟩
  · exact ⟨Nat.zero_le _, fun d hd => by cases hd⟩

/-! ### Runs -/
theorem own_inv {w : TWorld} (h : InvW w) (i : Int) (p : TPrefix) : InvW (F15_redist_Own w i p).1 := (own_both h i (may_all p)).2.1
theorem own_ref {w : TWorld} (h : InvW w) (i : Int) (p : TPrefix) : F16_crossroadsref28_Own w i p = F15_redist_Own w i p := (own_both h i (may_all p)).1.symm
theorem tell_inv {w : TWorld} (h : InvW w) (b : TBorder) (p : TPrefix) : InvW (F17_redist_Tell w b p).1 := (tell_both h b (may_all p)).2
theorem tell_refe {w : TWorld} (h : InvW w) (b : TBorder) (p : TPrefix) : F18_crossroadsref28_Tell w b p = F17_redist_Tell w b p := (tell_both h b (may_all p)).1.symm
theorem cease_inv {w : TWorld} (h : InvW w) (i : Int) (p : TPrefix) : InvW (F19_redist_Cease w i p).1 := (cease_both h i p).2.1
theorem cease_ref {w : TWorld} (h : InvW w) (i : Int) (p : TPrefix) : F20_crossroadsref28_Cease w i p = F19_redist_Cease w i p := (cease_both h i p).1.symm
theorem own_inv16 {w : TWorld} (h : InvW w) (i : Int) (p : TPrefix) : InvW (F16_crossroadsref28_Own w i p).1 := own_ref h i p ▸ own_inv h i p
theorem tell_inv18 {w : TWorld} (h : InvW w) (b : TBorder) (p : TPrefix) : InvW (F18_crossroadsref28_Tell w b p).1 := tell_refe h b p ▸ tell_inv h b p
theorem cease_inv20 {w : TWorld} (h : InvW w) (i : Int) (p : TPrefix) : InvW (F20_crossroadsref28_Cease w i p).1 := cease_ref h i p ▸ cease_inv h i p

theorem run_l1 : ∀ (l : List TAct) {w : TWorld}, InvW w → F25_crossroadsref28_Run_l1 w l = F24_redist_Run_l1 w l ∧ InvW (F24_redist_Run_l1 w l)
  | [], w, h => by
    unfold F25_crossroadsref28_Run_l1 F24_redist_Run_l1
    exact ⟨rfl, h⟩
  | a :: l, w, h => by
    unfold F25_crossroadsref28_Run_l1 F24_redist_Run_l1
    by_cases h1 : a.Kind = 1
    · have h2 : ¬ a.Kind = 2 := by omega
      have h3 : ¬ a.Kind = 3 := by omega
      have e2 : ¬ (1 : Int) = 2 := by decide
      have e3 : ¬ (1 : Int) = 3 := by decide
      simp only [h1, e2, e3, decide_true, decide_false, cond_true, cond_false, own_ref h]
      exact run_l1 l (own_inv h _ _)
    · by_cases h2 : a.Kind = 2
      · have e1 : ¬ (2 : Int) = 1 := by decide
        have e3 : ¬ (2 : Int) = 3 := by decide
        simp only [h2, e1, e3, decide_true, decide_false, cond_true, cond_false, tell_refe h]
        exact run_l1 l (tell_inv h _ _)
      · by_cases h3 : a.Kind = 3
        · have e1 : ¬ (3 : Int) = 1 := by decide
          have e2 : ¬ (3 : Int) = 2 := by decide
          simp only [h3, e1, e2, decide_true, decide_false, cond_true, cond_false, cease_ref h]
          exact run_l1 l (cease_inv h _ _)
        · simp only [h1, h2, h3, decide_false, cond_false]
          exact run_l1 l h
theorem run_both {w : TWorld} (h : InvW w) (l : List TAct) : F25_crossroadsref28_Run w l = F24_redist_Run w l ∧ InvW (F24_redist_Run w l) := run_l1 l h
theorem run_inv {w : TWorld} (h : InvW w) (l : List TAct) : InvW (F24_redist_Run w l) := (run_both h l).2
theorem run_inv25 {w : TWorld} (h : InvW w) (l : List TAct) : InvW (F25_crossroadsref28_Run w l) := (run_both h l).1 ▸ (run_both h l).2

theorem built_inv (tags : List Int) (script : List TAct) : InvW (F9_crossroadslaw28_built tags script).1 := by
  have hz : InvW ⟨[]⟩ := ⟨Nat.zero_le _, fun d hd => by cases hd⟩
  unfold F9_crossroadslaw28_built
  by_cases h1 : (20 : Int) < tags.length
  · simp only [h1, decide_true, cond_true]; exact hz
  · by_cases h2 : (100 : Int) < script.length
    · simp only [h1, h2, decide_true, decide_false, cond_true, cond_false]; exact hz
    · simp only [h1, h2, decide_false, cond_false]
      exact run_inv (new_inv tags) script

/-! ### Sweeps -/
theorem tells_l1 : ∀ (l : List TExt) (out : List TPrefix), F65_redist_Domain_tells_l1 out l = out ++ l.map (·.P)
  | [], out => by simp [F65_redist_Domain_tells_l1]
  | x :: l, out => by
    unfold F65_redist_Domain_tells_l1
    rw [tells_l1 l]
    simp
theorem tells_eq (d : TDomain) : F65_redist_Domain_tells d = d.In ++ d.Ext.map (·.P) := tells_l1 _ _
theorem sweep_l2 : ∀ (l : List TExt) (out : List TPrefix), F28_crossroadsref28_Sweep_l2 out l = out ++ l.map (·.P)
  | [], out => by simp [F28_crossroadsref28_Sweep_l2]
  | x :: l, out => by
    unfold F28_crossroadsref28_Sweep_l2
    rw [sweep_l2 l]
    simp

theorem once_l1 (b : TBorder) : ∀ (l : List TPrefix) {w : TWorld} (c : Bool), InvW w → F28_crossroadsref28_Sweep_l1 b c w l = F51_redist_once_l1 b c w l ∧ InvW (F51_redist_once_l1 b c w l).2
  | [], w, c, h => by
    unfold F28_crossroadsref28_Sweep_l1 F51_redist_once_l1
    exact ⟨rfl, h⟩
  | p :: l, w, c, h => by
    unfold F28_crossroadsref28_Sweep_l1 F51_redist_once_l1
    rw [tell_refe h]
    cases c with
    | true => exact once_l1 b l true (tell_inv h b p)
    | false => exact once_l1 b l _ (tell_inv h b p)

theorem once_l2 : ∀ (l : List TBorder) {w : TWorld} (c : Bool), InvW w → F28_crossroadsref28_Sweep_l3 c w l = F51_redist_once_l2 c w l ∧ InvW (F51_redist_once_l2 c w l).2
  | [], w, c, h => by
    unfold F28_crossroadsref28_Sweep_l3 F51_redist_once_l2
    exact ⟨rfl, h⟩
  | b :: l, w, c, h => by
    unfold F28_crossroadsref28_Sweep_l3 F51_redist_once_l2
    simp only [is_eq, sweep_l2, tells_eq, List.nil_append]
    by_cases hi : 0 ≤ b.From ∧ b.From < (w.D.length : Int)
    · have h1 : ¬ b.From < 0 := by omega
      have h2 : ¬ (w.D.length : Int) ≤ b.From := by omega
      simp only [hi, h1, h2, decide_true, decide_false, cond_true, cond_false, and_self]
      obtain ⟨e1, e2⟩ := once_l1 b ((w.D.getD b.From.toNat default).In ++ (w.D.getD b.From.toNat default).Ext.map (·.P)) c h
      rw [e1]
      exact once_l2 l _ e2
    · simp only [hi, decide_false, cond_false]
      have ih := once_l2 l c h
      by_cases h1 : b.From < 0
      · simp only [h1, decide_true, cond_true]; exact ih
      · have h2 : (w.D.length : Int) ≤ b.From := by omega
        simp only [h1, h2, decide_true, decide_false, cond_true, cond_false]; exact ih

theorem once_inv {w : TWorld} (h : InvW w) (l : List TBorder) : InvW (F51_redist_once w l).1 := (once_l2 l false h).2

/-- A sweep ends with some 'once' that changed nothing, or was the 64th. -/
theorem sweep_l (l : List TBorder) : ∀ (fuel : Nat) (n : Int) {w : TWorld}, InvW w → 1 ≤ n → n ≤ 64 → (65 - n).toNat ≤ fuel →
    ∃ v m, F27_redist_Sweep_l1 l fuel n w = .error (v, m) ∧ F28_crossroadsref28_Sweep_l4 l fuel n w = .error (v, m) ∧ InvW v ∧ 1 ≤ m ∧ m ≤ 64 ∧ (m < 64 → ∃ u, InvW u ∧ F51_redist_once u l = (v, false))
  | 0, n, w, h, h1, h2, h3 => absurd h3 (by omega)
  | fuel + 1, n, w, h, h1, h2, h3 => by
    unfold F27_redist_Sweep_l1 F28_crossroadsref28_Sweep_l4
    have e := (once_l2 l false h).1
    have e1 : F51_redist_once w l = ((F51_redist_once_l2 false w l).2, (F51_redist_once_l2 false w l).1) := rfl
    have hi := once_inv h l
    rw [e, e1]
    rw [e1] at hi
    simp only [h2, decide_true, cond_true]
    cases hc : (F51_redist_once_l2 false w l).1 with
    | false =>
      simp only [cond_false]
      exact ⟨_, n, rfl, rfl, hi, h1, h2, fun _ => ⟨w, h, by rw [e1, hc]⟩⟩
    | true =>
      simp only [cond_true]
      by_cases h64 : n = 64
      · simp only [h64, decide_true, cond_true]
        exact ⟨_, 64, rfl, rfl, hi, by omega, by omega, fun h => absurd h (by omega)⟩
      · simp only [h64, decide_false, cond_false]
        have hw : IntKind.i64.wrap (n + 1) = n + 1 := wi64 (by omega) (by omega)
        rw [hw]
        exact sweep_l l fuel (n + 1) hi (by omega) (by omega) (by omega)

theorem sweep_both {w : TWorld} (h : InvW w) (l : List TBorder) : F28_crossroadsref28_Sweep w l = F27_redist_Sweep w l ∧ InvW (F27_redist_Sweep w l).1 ∧ 1 ≤ (F27_redist_Sweep w l).2 ∧ (F27_redist_Sweep w l).2 ≤ 64 ∧
    ((F27_redist_Sweep w l).2 < 64 → ∃ u, InvW u ∧ F51_redist_once u l = ((F27_redist_Sweep w l).1, false)) := by
  obtain ⟨v, m, e1, e2, e3, e4, e5, e6⟩ := sweep_l l ((65 - 1 : Int).toNat + 1) 1 h (by decide) (by decide) (by decide)
  unfold F27_redist_Sweep F28_crossroadsref28_Sweep
  rw [e1, e2]
  exact ⟨rfl, e3, e4, e5, e6⟩
theorem sweep_inv {w : TWorld} (h : InvW w) (l : List TBorder) : InvW (F27_redist_Sweep w l).1 := (sweep_both h l).2.1
theorem sweep_inv28 {w : TWorld} (h : InvW w) (l : List TBorder) : InvW (F28_crossroadsref28_Sweep w l).1 := (sweep_both h l).1 ▸ (sweep_both h l).2.1
end Go.Proofs.Ytlemcljcmfphcaa.Abs
