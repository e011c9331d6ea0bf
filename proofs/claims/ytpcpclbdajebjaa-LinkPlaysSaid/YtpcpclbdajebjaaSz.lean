/- Sizes, in the words that the walks ask for. -/
import Derived.Test.YtpcpclbdajebjaaEn
import Derived.Test.YtpcpclbdajebjaaB2
set_option linter.unusedVariables false
set_option linter.unusedSimpArgs false
namespace Go.Proofs.Ytpcpclbdajebjaa.Abs
open Go

structure SmB (b : TBase) : Prop where
  nL : b.L.length ≤ 1000
  all : ∀ x ∈ b.L, x.Things.length ≤ 100

theorem SmB.szL {b : TBase} (h : SmB b) {k : Nat} (hk : k ≤ 1000) : b.L.length * k ≤ 140737488355328 := Nat.le_trans (Nat.mul_le_mul h.nL hk) (by decide)
theorem SmB.leL {b : TBase} (h : SmB b) : b.L.length ≤ 9223372036854775807 := by have := h.nL; omega
theorem SmB.at {b : TBase} (h : SmB b) {i : Nat} {x : TLsp} (hx : b.L[i]? = some x) : x.Things.length ≤ 100 := h.all x (List.mem_of_getElem? hx)
theorem SmB.at2 {b : TBase} {i : Nat} {x : TLsp} (hx : b.L[i]? = some x) (h : SmB b) : x.Things.length ≤ 100 := h.at hx
theorem SmB.ini {b : TBase} (h : SmB b) (m : Int) (o : Bool) (l : Int) : SmB ⟨l, m, b.L, o⟩ := ⟨h.nL, h.all⟩
theorem lt_found {b : Bool} {a n : Int} (h : b = true → a < n) (hb : b = true) : a < n := h hb

theorem bs62_l1 (x0 : List TLsp) (t : Int) (c : TLsp → Int → Int) : ∀ (f : Nat) (i j : Int), F62_slices_BinarySearchFunc_l1 x0 t c f i j = bsG x0 t c f i j
  | 0, i, j => rfl
  | f + 1, i, j => by
    unfold F62_slices_BinarySearchFunc_l1 bsG
    simp only [bs62_l1 x0 t c f]
    rfl
theorem bs62 (x0 : List TLsp) (t : Int) (c : TLsp → Int → Int) : F62_slices_BinarySearchFunc x0 t c = bsF x0 t c := by
  unfold F62_slices_BinarySearchFunc bsF
  rw [bs62_l1]

theorem post_at (b : TBase) (id : Int) (h : SmB b) : 0 ≤ (F49_link_Base_at b id).1 ∧ (F49_link_Base_at b id).1 ≤ (b.L.length : Int) ∧ b.L.length ≤ 1000 := by
  unfold F49_link_Base_at
  rw [bs62]
  obtain ⟨h1, h2, _⟩ := bsF_bounds (L := b.L) (t := id) (cmp := fun y0 y1 => F63_link_Base_at_1 y0 y1) h.leL
  exact ⟨h1, h2, h.nL⟩
theorem post_at2 (b : TBase) (id : Int) (h : SmB b) : (F49_link_Base_at b id).2 = true → (F49_link_Base_at b id).1 < (b.L.length : Int) := by
  unfold F49_link_Base_at
  rw [bs62]
  exact (bsF_bounds (L := b.L) (t := id) (cmp := fun y0 y1 => F63_link_Base_at_1 y0 y1) h.leL).2.2

theorem post_New (l m : Int) : SmB (F24_link_New l m).1 ∧ (F24_link_New l m).1.Max ≤ 1000 := by
  have hz : ∀ (a b : Int) (o : Bool), SmB ⟨a, b, [], o⟩ := fun a b o => ⟨Nat.zero_le _, fun x hx => by cases hx⟩
  unfold F24_link_New
  by_cases h1 : l < 1
  · simp only [h1, decide_true, cond_true]; exact ⟨hz _ _ _, by decide⟩
  · by_cases h2 : 2 < l
    · simp only [h1, h2, decide_true, decide_false, cond_true, cond_false]; exact ⟨hz _ _ _, by decide⟩
    · by_cases h3 : m < 1
      · simp only [h1, h2, h3, decide_true, decide_false, cond_true, cond_false]; exact ⟨hz _ _ _, by decide⟩
      · by_cases h4 : 1000 < m
        · simp only [h1, h2, h3, h4, decide_true, decide_false, cond_true, cond_false]; exact ⟨hz _ _ _, by decide⟩
        · simp only [h1, h2, h3, h4, decide_false, cond_false]
          exact ⟨hz _ _ _, by show m ≤ 1000; omega⟩
theorem post_New1 (l m : Int) : SmB (F24_link_New l m).1 := (post_New l m).1
theorem post_New2 (l m : Int) : (F24_link_New l m).1.Max ≤ 1000 := (post_New l m).2
theorem refNew_eq (l m : Int) : F25_crossroadsref23_New l m = F24_link_New l m := rfl
theorem post_rNew1 (l m : Int) : SmB (F25_crossroadsref23_New l m).1 := (post_New l m).1
theorem post_rNew2 (l m : Int) : (F25_crossroadsref23_New l m).1.Max ≤ 1000 := (post_New l m).2

theorem post_Put (b : TBase) (x : TLsp) (h : SmB b) (hm : b.Max ≤ 1000) (hx : x.Things.length ≤ 100) : SmB (F21_link_Put b x).1 ∧ (F21_link_Put b x).1.Max = b.Max := by
  unfold F21_link_Put
  cases F48_link_Base_isOf b x with
  | false => simp only [cond_false]; exact ⟨h, by trivial⟩
  | true =>
    simp only [cond_true]
    have hb := post_at b x.ID h
    generalize F49_link_Base_at b x.ID = r at hb
    obtain ⟨i, is⟩ := r
    cases is with
    | true =>
      simp only [cond_true]
      generalize (IntKind.i64.wrap (1 + F8_link_Compare (F14_link_Entry x) (F14_link_Entry (b.L.getD i.toNat default)))) = k
      by_cases hk : k = 2
      · simp only [hk, decide_true, cond_true]
        refine ⟨⟨by simpa using h.nL, fun y hy => ?_⟩, by trivial⟩
        rcases List.mem_or_eq_of_mem_set hy with h1 | h1
        · exact h.all y h1
        · exact h1 ▸ hx
      · simp only [hk, decide_false, cond_false]; exact ⟨h, trivial⟩
    | false =>
      simp only [cond_false]
      by_cases hc : b.Max ≤ (b.L.length : Int)
      · simp only [hc, decide_true, cond_true]; exact ⟨h.ini _ _ _, by trivial⟩
      · simp only [hc, decide_false, cond_false]
        refine ⟨⟨?_, fun y hy => ?_⟩, by trivial⟩
        · simp [ins_]; omega
        · simp only [ins_, List.mem_append, List.mem_singleton] at hy
          rcases hy with (hy | hy) | hy
          · exact h.all y (List.mem_of_mem_take hy)
          · exact hy ▸ hx
          · exact h.all y (List.mem_of_mem_drop hy)
theorem post_Put1 (b : TBase) (x : TLsp) (h : SmB b) (hm : b.Max ≤ 1000) (hx : x.Things.length ≤ 100) : SmB (F21_link_Put b x).1 := (post_Put b x h hm hx).1
theorem post_Put2 (b : TBase) (x : TLsp) (h : SmB b) (hm : b.Max ≤ 1000) (hx : x.Things.length ≤ 100) : (F21_link_Put b x).1.Max ≤ 1000 := (post_Put b x h hm hx).2 ▸ hm

theorem little_l1 : ∀ (l : List TThing) (i : Nat), i ≤ 8 → F12_crossroadslaw23_little_l1 i l = .ok () → i + l.length ≤ 8
  | [], i, h, _ => by simpa using h
  | x :: l, i, h, e => by
    unfold F12_crossroadslaw23_little_l1 at e
    by_cases h1 : (i : Int) = 8
    · simp [h1] at e
    · by_cases h2 : (300 : Int) < x.B.length
      · simp [h1, h2] at e
      · simp only [h1, h2, decide_false, cond_false] at e
        have := little_l1 l (i + 1) (by omega) e
        simp
        omega
theorem little_len {x : TLsp} (h : F12_crossroadslaw23_little x = true) : x.Things.length ≤ 8 := by
  unfold F12_crossroadslaw23_little at h
  have h2 : F12_crossroadslaw23_little_l1 0 x.Things = .ok () := by
    cases e : F12_crossroadslaw23_little_l1 0 x.Things with
    | ok u => rfl
    | error r =>
      have : ∀ (l : List TThing) (i : Nat) (r : Bool), F12_crossroadslaw23_little_l1 i l = .error r → r = false := by
        intro l
        induction l with
        | nil => intro i r h; unfold F12_crossroadslaw23_little_l1 at h; cases h
        | cons x l ih =>
          intro i r h
          unfold F12_crossroadslaw23_little_l1 at h
          by_cases h1 : (i : Int) = 8
          · simp only [h1, decide_true, cond_true] at h; injection h with h; exact h.symm
          · by_cases h2 : (300 : Int) < x.B.length
            · simp only [h1, h2, decide_true, decide_false, cond_true, cond_false] at h; injection h with h; exact h.symm
            · simp only [h1, h2, decide_false, cond_false] at h; exact ih _ _ h
      rw [e] at h
      have := this _ _ _ e
      subst this
      cases h
  have := little_l1 x.Things 0 (by omega) h2
  omega
theorem post_little (x : TLsp) : F12_crossroadslaw23_little x = true → x.Things.length ≤ 100 := fun h => by have := little_len h; omega

theorem small_l1 : ∀ (l : List TLsp) (i : Nat), i ≤ 60 → F16_crossroadslaw23_small_l1 i l = .ok () → i + l.length ≤ 60 ∧ ∀ x ∈ l, x.Things.length ≤ 8
  | [], i, h, _ => ⟨by simpa using h, fun x hx => by cases hx⟩
  | x :: l, i, h, e => by
    unfold F16_crossroadslaw23_small_l1 at e
    by_cases h1 : (i : Int) = 60
    · simp [h1] at e
    · simp only [h1, decide_false, cond_false] at e
      cases hl : F12_crossroadslaw23_little x with
      | false => rw [hl] at e; simp at e
      | true =>
        rw [hl] at e
        simp only [cond_true] at e
        obtain ⟨g1, g2⟩ := small_l1 l (i + 1) (by omega) e
        refine ⟨by simp; omega, fun y hy => ?_⟩
        rcases List.mem_cons.1 hy with rfl | hy
        · exact little_len hl
        · exact g2 y hy
theorem small_err : ∀ (l : List TLsp) (i : Nat) (r : Bool), F16_crossroadslaw23_small_l1 i l = .error r → r = false
  | [], i, r, h => by unfold F16_crossroadslaw23_small_l1 at h; cases h
  | x :: l, i, r, h => by
    unfold F16_crossroadslaw23_small_l1 at h
    by_cases h1 : (i : Int) = 60
    · simp only [h1, decide_true, cond_true] at h; injection h with h; exact h.symm
    · simp only [h1, decide_false, cond_false] at h
      cases hl : F12_crossroadslaw23_little x with
      | false => rw [hl] at h; simp only [cond_false] at h; injection h with h; exact h.symm
      | true => rw [hl] at h; simp only [cond_true] at h; exact small_err l _ _ h
theorem small_ok {b : TBase} (h : F16_crossroadslaw23_small b = true) : F16_crossroadslaw23_small_l1 0 b.L = .ok () ∧ F46_crossroadsref23_May (F23_crossroadslaw23_plain b) = true := by
  unfold F16_crossroadslaw23_small at h
  cases e : F16_crossroadslaw23_small_l1 0 b.L with
  | ok u => rw [e] at h; exact ⟨rfl, h⟩
  | error r => rw [e] at h; have := small_err _ _ _ e; subst this; cases h
theorem small_sm {l : List TLsp} (h : F16_crossroadslaw23_small_l1 0 l = .ok ()) (a b : Int) (o : Bool) : SmB ⟨a, b, l, o⟩ := by
  obtain ⟨h1, h2⟩ := small_l1 l 0 (by omega) h
  exact ⟨by show l.length ≤ 1000; omega, fun x hx => by have := h2 x hx; omega⟩
theorem small_sm2 {b : TBase} (h : F16_crossroadslaw23_small_l1 0 b.L = .ok ()) : SmB b := small_sm h b.Level b.Max b.Over
theorem post_small (b : TBase) : F16_crossroadslaw23_small b = true → SmB b := fun h => small_sm (small_ok h).1 b.Level b.Max b.Over

theorem post_Find (b : TBase) (id : Int) (h : SmB b) : (F47_link_Find b id).1.Things.length ≤ 100 := by
  unfold F47_link_Find
  have hb := post_at2 b id h
  have hb0 := post_at b id h
  generalize F49_link_Base_at b id = r at hb hb0
  obtain ⟨i, is⟩ := r
  cases is with
  | false => exact Nat.zero_le _
  | true =>
    simp only [cond_true]
    have hlt : i.toNat < b.L.length := by have := hb rfl; simp only at this hb0; omega
    rw [List.getD_eq_getElem?_getD, List.getElem?_eq_getElem hlt]
    exact h.all _ (List.getElem_mem hlt)
theorem refFind_l1 (id : Int) : ∀ l : List TLsp, F54_crossroadsref23_Find_l1 id l = match l.find? (fun x => decide (x.ID = id)) with | some x => .error (x, true) | none => .ok ()
  | [] => by simp [F54_crossroadsref23_Find_l1]
  | x :: l => by
    unfold F54_crossroadsref23_Find_l1
    by_cases h : x.ID = id
    · simp [h]
    · simp [h, refFind_l1 id l]
theorem post_rFind (b : TBase) (id : Int) (h : SmB b) : (F54_crossroadsref23_Find b id).1.Things.length ≤ 100 := by
  unfold F54_crossroadsref23_Find
  rw [refFind_l1]
  cases e : b.L.find? fun x => decide (x.ID = id) with
  | none => exact Nat.zero_le _
  | some x => exact h.all x (List.mem_of_find?_eq_some e)

theorem lsp_l1 : ∀ (l t : List TThing), F30_crossroadslaw23_lsp_l1 t l = t ++ l
  | [], t => by simp [F30_crossroadslaw23_lsp_l1]
  | x :: l, t => by unfold F30_crossroadslaw23_lsp_l1; rw [lsp_l1 l]; simp
theorem lsp_eq (x : TLsp) : F30_crossroadslaw23_lsp x = x := by unfold F30_crossroadslaw23_lsp; rw [lsp_l1]; rfl
theorem plain_l1 : ∀ (l t : List TLsp), F23_crossroadslaw23_plain_l1 t l = t ++ l
  | [], t => by simp [F23_crossroadslaw23_plain_l1]
  | x :: l, t => by unfold F23_crossroadslaw23_plain_l1; simp only [lsp_eq, plain_l1 l]; simp
theorem plain_eq (b : TBase) : F23_crossroadslaw23_plain b = b := by unfold F23_crossroadslaw23_plain; rw [plain_l1]; rfl
theorem post_plain (b : TBase) (h : SmB b) : SmB (F23_crossroadslaw23_plain b) := by rw [plain_eq]; exact h
theorem post_lsp (x : TLsp) (h : x.Things.length ≤ 100) : (F30_crossroadslaw23_lsp x).Things.length ≤ 100 := by rw [lsp_eq]; exact h
theorem rows_l1 : ∀ (l t : List TEntry), F34_crossroadslaw23_rows_l1 t l = t ++ l
  | [], t => by simp [F34_crossroadslaw23_rows_l1]
  | x :: l, t => by unfold F34_crossroadslaw23_rows_l1; simp only [F10_crossroadslaw23_entry, rows_l1 l]; simp
theorem rows_eq (l : List TEntry) : F34_crossroadslaw23_rows l = l := by unfold F34_crossroadslaw23_rows; rw [rows_l1]; rfl
theorem list_eq (x : TList) : F32_crossroadslaw23_list x = x := by unfold F32_crossroadslaw23_list; simp only [rows_eq]
theorem post_list (x : TList) (h : x.L.length ≤ 1000) : (F32_crossroadslaw23_list x).L.length ≤ 1000 := by rw [list_eq]; exact h

def entOf (x : TLsp) : TEntry := ⟨x.Life, x.ID, x.Seq, x.Sum⟩
theorem list_l1 (lo hi : Int) : ∀ (l : List TLsp) (t : List TEntry), F17_link_List_l1 lo hi t l = t ++ (l.filter fun x => decide (lo ≤ x.ID ∧ x.ID ≤ hi)).map entOf
  | [], t => by simp [F17_link_List_l1]
  | x :: l, t => by
    unfold F17_link_List_l1
    by_cases h1 : lo ≤ x.ID <;> by_cases h2 : x.ID ≤ hi <;> simp [h1, h2, list_l1 lo hi l, F14_link_Entry, entOf]
theorem list_is (b : TBase) (lo hi : Int) : F17_link_List b lo hi = (b.L.filter fun x => decide (lo ≤ x.ID ∧ x.ID ≤ hi)).map entOf := by
  unfold F17_link_List; rw [list_l1, List.nil_append]
theorem post_List (b : TBase) (lo hi : Int) : (F17_link_List b lo hi).length ≤ b.L.length := by
  rw [list_is, List.length_map]; exact List.length_filter_le _ _
theorem rlist_l1 (lo hi : Int) : ∀ (l : List TLsp) (t : List TEntry), F35_crossroadsref23_List_l1 lo hi t l = t ++ (l.filter fun x => decide (lo ≤ x.ID ∧ x.ID ≤ hi)).map entOf
  | [], t => by simp [F35_crossroadsref23_List_l1]
  | x :: l, t => by
    unfold F35_crossroadsref23_List_l1
    by_cases h1 : lo ≤ x.ID <;> by_cases h2 : x.ID ≤ hi <;> simp [h1, h2, rlist_l1 lo hi l, F56_crossroadsref23_Entry, entOf]
theorem rlist_is (b : TBase) (lo hi : Int) : F35_crossroadsref23_List b lo hi = F17_link_List b lo hi := by
  rw [list_is]; unfold F35_crossroadsref23_List; rw [rlist_l1, List.nil_append]
theorem post_rList (b : TBase) (lo hi : Int) : (F35_crossroadsref23_List b lo hi).length ≤ b.L.length := by rw [rlist_is]; exact post_List b lo hi

theorem differ_l2 (x : TList) (told : List (Int × TEntry)) : ∀ (l : List TEntry) (t : List Int), (F18_link_Differ_l2 x told t l).length ≤ t.length + l.length
  | [], t => by simp [F18_link_Differ_l2]
  | e :: l, t => by
    unfold F18_link_Differ_l2
    have ih := differ_l2 x told l
    have a1 := ih (t ++ [e.ID]); have a2 := ih t
    simp only [List.length_append, List.length_cons, List.length_nil] at a1 ⊢
    cases (findM told e.ID).isSome <;> simp only [cond_true, cond_false]
    · cases x.Whole <;> simp only [cond_true, cond_false]
      · omega
      · cases decide (x.Low ≤ e.ID) <;> simp only [cond_true, cond_false]
        · omega
        · cases decide (e.ID ≤ x.High) <;> simp only [cond_true, cond_false] <;> omega
    · generalize decide (0 < F8_link_Compare e ((findM told e.ID).getD ⟨0, 0, 0, 0⟩)) = c
      cases c <;> simp only [cond_true, cond_false] <;> omega
theorem differ_l3 (b : TBase) : ∀ (l : List TEntry) (told : List (Int × TEntry)) (t : List TEntry), (F18_link_Differ_l3 b told t l).2.length ≤ t.length + l.length
  | [], told, t => by simp [F18_link_Differ_l3]
  | e :: l, told, t => by
    unfold F18_link_Differ_l3
    have ih := differ_l3 b l
    have a2 := fun told => ih told t
    have a1 := fun told y => ih told (t ++ [y])
    simp only [List.length_append, List.length_cons, List.length_nil] at a1 ⊢
    generalize F47_link_Find b e.ID = r
    obtain ⟨y, is⟩ := r
    dsimp only
    cases (findM told e.ID).isSome <;> simp only [cond_true, cond_false]
    · cases is <;> simp only [cond_true, cond_false]
      · cases decide (e.Life = 0) <;> simp only [cond_true, cond_false]
        · have := a1 (setM told e.ID e) ⟨0, e.ID, 0, 0⟩; omega
        · have := a2 (setM told e.ID e); omega
      · cases decide (e.Life = 0) <;> simp only [cond_true, cond_false]
        · generalize decide (0 < F8_link_Compare e (F14_link_Entry y)) = c
          cases c <;> simp only [cond_true, cond_false]
          · have := a2 (setM told e.ID e); omega
          · have := a1 (setM told e.ID e) (F14_link_Entry y); omega
        · have := a2 (setM told e.ID e); omega
    · have := a2 told; omega
theorem post_Differ (b : TBase) (x : TList) (h : b.L.length ≤ 1000) (hx : x.L.length ≤ 1000) : (F18_link_Differ b x).1.length ≤ 1000 ∧ (F18_link_Differ b x).2.length ≤ 1000 := by
  unfold F18_link_Differ
  have h1 := differ_l3 b x.L [] []
  generalize F18_link_Differ_l3 b [] [] x.L = r at h1
  obtain ⟨told, ask⟩ := r
  have h2 := differ_l2 x told (F17_link_List b 0 18446744073709551615) []
  have h3 := post_List b 0 18446744073709551615
  dsimp only at h1 h2 ⊢
  simp only [List.length_nil] at h1 h2
  omega

theorem tick_l1 (by_ : Int) : ∀ (k l : List TLsp) (t : List Int) (i : Nat), (∀ x ∈ l, x.Things.length ≤ 100) → (F26_link_Tick_l1 by_ l t i k).1.length = l.length ∧ (∀ x ∈ (F26_link_Tick_l1 by_ l t i k).1, x.Things.length ≤ 100) ∧ (F26_link_Tick_l1 by_ l t i k).2.length ≤ t.length + k.length
  | [], l, t, i, h => by simp [F26_link_Tick_l1]; exact h
  | x :: k, l, t, i, h => by
    unfold F26_link_Tick_l1
    have hg : (l.getD i default).Things.length ≤ 100 := by
      rw [List.getD_eq_getElem?_getD]
      cases e : l[i]? with
      | none => exact Nat.zero_le _
      | some y => exact h y (List.mem_of_getElem? e)
    have hs : ∀ y : TLsp, y.Things = (l.getD i default).Things → ∀ z ∈ l.set i y, z.Things.length ≤ 100 := by
      intro y hy z hz
      rcases List.mem_or_eq_of_mem_set hz with h1 | h1
      · exact h z h1
      · rw [h1, hy]; exact hg
    have a0 := fun t => tick_l1 by_ k l t (i + 1) h
    have a1 := fun y hy t => tick_l1 by_ k (l.set i y) t (i + 1) (hs y hy)
    simp only [List.length_set, List.length_cons] at a0 a1 ⊢
    have ay := a1 ⟨(l.getD i default).Level, IntKind.i64.wrap (((l.getD i default).Life) - (min_ by_ ((l.getD i default).Life))), (l.getD i default).ID, (l.getD i default).Seq, (l.getD i default).Sum, (l.getD i default).Bits, (l.getD i default).Things⟩ rfl
    have c0 := fun t => (a0 t).2.2
    have fin : ∀ (l' : List TLsp) (t' : List Int), t'.length ≤ t.length + 1 → ((F26_link_Tick_l1 by_ l' t' (i + 1) k).1.length = l.length ∧ (∀ z ∈ (F26_link_Tick_l1 by_ l' t' (i + 1) k).1, z.Things.length ≤ 100) ∧ (F26_link_Tick_l1 by_ l' t' (i + 1) k).2.length ≤ t'.length + k.length) →
        ((F26_link_Tick_l1 by_ l' t' (i + 1) k).1.length = l.length ∧ (∀ z ∈ (F26_link_Tick_l1 by_ l' t' (i + 1) k).1, z.Things.length ≤ 100) ∧ (F26_link_Tick_l1 by_ l' t' (i + 1) k).2.length ≤ t.length + (k.length + 1)) := fun l' t' ht hh => ⟨hh.1, hh.2.1, by omega⟩
    cases decide (0 < by_) <;> simp only [cond_true, cond_false]
    · cases decide (0 < (l.getD i default).Life) <;> simp only [cond_true, cond_false]
      · exact fin _ _ (by omega) (a0 t)
      · cases decide ((l.getD i default).Life = 0) <;> simp only [cond_true, cond_false]
        · exact fin _ _ (by omega) (a0 t)
        · exact fin _ _ (by simp) (a0 _)
    · cases decide (0 < (l.getD i default).Life) <;> simp only [cond_true, cond_false]
      · exact fin _ _ (by omega) (ay t)
      · generalize decide ((List.getD (l.set i _) i default).Life = 0) = c
        cases c <;> simp only [cond_true, cond_false]
        · exact fin _ _ (by omega) (ay t)
        · exact fin _ _ (by simp) (ay _)
theorem post_Tick (b : TBase) (by_ : Int) (h : SmB b) : SmB (F26_link_Tick b by_).1 := by
  unfold F26_link_Tick
  obtain ⟨h1, h2, h3⟩ := tick_l1 by_ b.L b.L [] 0 h.all
  generalize F26_link_Tick_l1 by_ b.L [] 0 b.L = r at h1 h2
  obtain ⟨l, t⟩ := r
  exact ⟨by show l.length ≤ 1000; simp only at h1; rw [h1]; exact h.nL, h2⟩
theorem post_Tick2 (b : TBase) (by_ : Int) : (F26_link_Tick b by_).1.Max = b.Max := rfl
theorem rtick_l1 (by_ : Int) : ∀ (k out : List TLsp) (t : List Int), (∀ x ∈ out, x.Things.length ≤ 100) → (∀ x ∈ k, x.Things.length ≤ 100) → (F27_crossroadsref23_Tick_l1 by_ out t k).1.length = out.length + k.length ∧ (∀ x ∈ (F27_crossroadsref23_Tick_l1 by_ out t k).1, x.Things.length ≤ 100)
  | [], out, t, h, _ => by simp [F27_crossroadsref23_Tick_l1]; exact h
  | x :: k, out, t, h, hk => by
    unfold F27_crossroadsref23_Tick_l1
    have hx := hk x List.mem_cons_self
    have hs : ∀ y : TLsp, y.Things = x.Things → ∀ z ∈ out ++ [y], z.Things.length ≤ 100 := by
      intro y hy z hz
      rcases List.mem_append.1 hz with h1 | h1
      · exact h z h1
      · rw [List.mem_singleton.1 h1, hy]; exact hx
    have a1 := fun y hy t => rtick_l1 by_ k (out ++ [y]) t (hs y hy) (fun z hz => hk z (List.mem_cons_of_mem _ hz))
    simp only [List.length_append, List.length_cons, List.length_nil] at a1 ⊢
    have fin : ∀ (y : TLsp) (t' : List Int), y.Things = x.Things → ((F27_crossroadsref23_Tick_l1 by_ (out ++ [y]) t' k).1.length = out.length + (k.length + 1) ∧ (∀ z ∈ (F27_crossroadsref23_Tick_l1 by_ (out ++ [y]) t' k).1, z.Things.length ≤ 100)) := fun y t' hy => ⟨by have := (a1 y hy t').1; omega, (a1 y hy t').2⟩
    cases decide (0 < by_) <;> simp only [cond_true, cond_false]
    · cases decide (x.Life = 0) <;> simp only [cond_true, cond_false]
      · exact fin _ _ rfl
      · cases decide (0 < x.Life) <;> simp only [cond_true, cond_false] <;> exact fin _ _ rfl
    · cases decide (max_ 0 (IntKind.i64.wrap (x.Life - (min_ by_ 65535))) = 0) <;> simp only [cond_true, cond_false]
      · exact fin _ _ rfl
      · cases decide (0 < x.Life) <;> simp only [cond_true, cond_false] <;> exact fin _ _ rfl
theorem post_rTick (b : TBase) (by_ : Int) (h : SmB b) : SmB (F27_crossroadsref23_Tick b by_).1 := by
  unfold F27_crossroadsref23_Tick
  obtain ⟨h1, h2⟩ := rtick_l1 by_ b.L [] [] (fun x hx => by cases hx) h.all
  generalize F27_crossroadsref23_Tick_l1 by_ [] [] b.L = r at h1 h2
  obtain ⟨l, t⟩ := r
  exact ⟨by show l.length ≤ 1000; have := h.nL; simp at h1; omega, h2⟩
theorem post_rTick2 (b : TBase) (by_ : Int) : (F27_crossroadsref23_Tick b by_).1.Max = b.Max := rfl

theorem into_l1 (x : TLsp) : ∀ (l out : List TLsp) (p : Bool), (F55_crossroadsref23_into_l1 x p out l).2.length + (bif (F55_crossroadsref23_into_l1 x p out l).1 then 0 else 1) ≤ out.length + l.length + (bif p then 0 else 1) ∧ (∀ y ∈ (F55_crossroadsref23_into_l1 x p out l).2, y ∈ out ∨ y ∈ l ∨ y = x)
  | [], out, p => by unfold F55_crossroadsref23_into_l1; exact ⟨by simp, fun y hy => .inl hy⟩
  | a :: l, out, p => by
    unfold F55_crossroadsref23_into_l1
    have ih := into_l1 x l
    have key : ∀ (e : List TLsp) (q : Bool), (∀ y ∈ e, y ∈ out ∨ y = a ∨ y = x) → e.length + (bif q then 0 else 1) ≤ out.length + 1 + (bif p then 0 else 1) →
        ((F55_crossroadsref23_into_l1 x q e l).2.length + (bif (F55_crossroadsref23_into_l1 x q e l).1 then 0 else 1) ≤ out.length + (a :: l).length + (bif p then 0 else 1) ∧ (∀ y ∈ (F55_crossroadsref23_into_l1 x q e l).2, y ∈ out ∨ y ∈ a :: l ∨ y = x)) := by
      intro e q he hl
      obtain ⟨g1, g2⟩ := ih e q
      refine ⟨by simp only [List.length_cons]; omega, fun y hy => ?_⟩
      rcases g2 y hy with h | h | h
      · rcases he y h with h | h | h
        · exact .inl h
        · exact .inr (.inl (h ▸ List.mem_cons_self))
        · exact .inr (.inr h)
      · exact .inr (.inl (List.mem_cons_of_mem _ h))
      · exact .inr (.inr h)
    have m1 : ∀ y ∈ out, y ∈ out ∨ y = a ∨ y = x := fun y hy => .inl hy
    have m2 : ∀ y ∈ out ++ [a], y ∈ out ∨ y = a ∨ y = x := by
      intro y hy
      rcases List.mem_append.1 hy with h | h
      · exact .inl h
      · exact .inr (.inl (List.mem_singleton.1 h))
    have m3 : ∀ y ∈ out ++ [x], y ∈ out ∨ y = a ∨ y = x := by
      intro y hy
      rcases List.mem_append.1 hy with h | h
      · exact .inl h
      · exact .inr (.inr (List.mem_singleton.1 h))
    have m4 : ∀ y ∈ (out ++ [x]) ++ [a], y ∈ out ∨ y = a ∨ y = x := by
      intro y hy
      rcases List.mem_append.1 hy with h | h
      · exact m3 y h
      · exact .inr (.inl (List.mem_singleton.1 h))
    cases p <;> simp only [cond_true, cond_false] at key ⊢
    · cases decide (x.ID ≤ a.ID) <;> simp only [cond_true, cond_false]
      · cases decide (a.ID = x.ID) <;> simp only [cond_true, cond_false]
        · exact key _ false m2 (by simp)
        · exact key _ false m1 (by simp)
      · cases decide (a.ID = x.ID) <;> simp only [cond_true, cond_false]
        · exact key _ true m4 (by simp)
        · exact key _ true m3 (by simp)
    · cases decide (a.ID = x.ID) <;> simp only [cond_true, cond_false]
      · exact key _ true m2 (by simp)
      · exact key _ true m1 (by simp)
theorem into_len (b : TBase) (x : TLsp) : (F55_crossroadsref23_into b x).L.length ≤ b.L.length + 1 ∧ ∀ y ∈ (F55_crossroadsref23_into b x).L, y ∈ b.L ∨ y = x := by
  unfold F55_crossroadsref23_into
  obtain ⟨h1, h2⟩ := into_l1 x b.L [] false
  generalize F55_crossroadsref23_into_l1 x false [] b.L = r at h1 h2
  obtain ⟨p, o⟩ := r
  simp only [List.length_nil, cond_false] at h1
  cases p <;> simp only [cond_true, cond_false] at h1 ⊢
  · refine ⟨by simp; omega, fun y hy => ?_⟩
    rcases List.mem_append.1 hy with h | h
    · rcases h2 y h with h | h | h
      · cases h
      · exact .inl h
      · exact .inr h
    · exact .inr (List.mem_singleton.1 h)
  · refine ⟨by omega, fun y hy => ?_⟩
    rcases h2 y hy with h | h | h
    · cases h
    · exact .inl h
    · exact .inr h

theorem tput_l1 : ∀ (l : List TThing) (t : List Int), (∀ r, F69_tlv_Put_l1 t l = .error r → r.1.length ≤ 25700) ∧ (∀ o, F69_tlv_Put_l1 t l = .ok o → o.length ≤ t.length + 257 * l.length)
  | [], t => by simp [F69_tlv_Put_l1]
  | x :: l, t => by
    unfold F69_tlv_Put_l1
    by_cases h1 : x.Kind < 0
    · simp [h1]
    · by_cases h2 : 255 < x.Kind
      · simp [h1, h2]
      · by_cases h3 : (255 : Int) < x.B.length
        · simp [h1, h2, h3]
        · simp only [h1, h2, h3, decide_false, cond_false]
          obtain ⟨g1, g2⟩ := tput_l1 l ((t ++ [IntKind.u8.wrap x.Kind, IntKind.u8.wrap (x.B.length : Int)]) ++ x.B)
          refine ⟨g1, fun o ho => ?_⟩
          have := g2 o ho
          simp at this ⊢
          omega
theorem post_tput (l : List TThing) (h : l.length ≤ 100) : (F69_tlv_Put l).1.length ≤ 25700 := by
  unfold F69_tlv_Put
  obtain ⟨g1, g2⟩ := tput_l1 l []
  cases e : F69_tlv_Put_l1 [] l with
  | error r => exact g1 r e
  | ok o => have := g2 o e; simp at this ⊢; omega
theorem tput_same : ∀ (l : List TThing) (t : List Int), F77_crossroadsref21_Put_l1 t l = F69_tlv_Put_l1 t l
  | [], t => by unfold F77_crossroadsref21_Put_l1 F69_tlv_Put_l1; rfl
  | x :: l, t => by
    unfold F77_crossroadsref21_Put_l1 F69_tlv_Put_l1
    simp only [tput_same l]
theorem tput_eq (l : List TThing) : F77_crossroadsref21_Put l = F69_tlv_Put l := by
  unfold F77_crossroadsref21_Put F69_tlv_Put
  rw [tput_same]
theorem post_tput2 (l : List TThing) (h : l.length ≤ 100) : (F77_crossroadsref21_Put l).1.length ≤ 25700 := by rw [tput_eq]; exact post_tput l h

theorem put_l1 (n : Int) : ∀ (f : Nat) (i : Int) (row : List Int), -1 ≤ i → i ≤ 7 → ((F74_pdu_page_put_l1 n f i row).2.length : Int) ≤ row.length + (i + 1)
  | 0, i, row, h1, h2 => by unfold F74_pdu_page_put_l1; simp; omega
  | f + 1, i, row, h1, h2 => by
    unfold F74_pdu_page_put_l1
    by_cases h : 0 ≤ i
    · have hw : IntKind.i64.wrap (i - 1) = i - 1 := wi64 (by omega) (by omega)
      simp only [h, decide_true, cond_true, hw]
      have := put_l1 n f (i - 1) (row ++ [IntKind.u8.wrap (shr_ .u64 n (IntKind.i64.wrap (8 * i)))]) (by omega) (by omega)
      simp only [List.length_append, List.length_cons, List.length_nil] at this
      omega
    · simp only [h, decide_false, cond_false]
      omega
theorem post_put (p : TPage) (n m : Int) (h0 : 0 ≤ m) (h1 : m ≤ 8) : (F74_pdu_page_put p n m).b.length ≤ p.b.length + 8 := by
  unfold F74_pdu_page_put
  have hw : IntKind.i64.wrap (m - 1) = m - 1 := wi64 (by omega) (by omega)
  rw [hw]
  have := put_l1 n ((m - 1 + 1).toNat + 1) (m - 1) p.b (by omega) (by omega)
  generalize F74_pdu_page_put_l1 n ((m - 1 + 1).toNat + 1) (m - 1) p.b = r at this
  obtain ⟨i, row⟩ := r
  simp only at this ⊢
  omega
theorem post_begin (k : Int) : (F73_pdu_begin k).length = 8 := rfl
theorem post_rbegin (a k : Int) : (F79_crossroadsref22_begin a k).length = 8 := rfl
theorem post_two (n : Int) : (F80_crossroadsref22_two n).length = 2 := rfl
theorem post_Four (n : Int) : (F82_crossroadsref01_Four n).length = 4 := rfl
theorem post_eight (n : Int) : (F81_crossroadsref22_eight n).length = 8 := rfl
theorem post_thing (n : Int) : (F13_crossroadslaw23_thing n).length = 1 := rfl
theorem post_List1 (b : TBase) (lo hi : Int) (h : SmB b) : (F17_link_List b lo hi).length ≤ 1000 := Nat.le_trans (post_List b lo hi) h.nL
theorem post_rList1 (b : TBase) (lo hi : Int) (h : SmB b) : (F35_crossroadsref23_List b lo hi).length ≤ 1000 := Nat.le_trans (post_rList b lo hi) h.nL
theorem new_ok {l m : Int} (h : (F24_link_New l m).2 = 0) : 1 ≤ l ∧ l ≤ 2 ∧ 1 ≤ m ∧ m ≤ 1000 := by
  unfold F24_link_New at h
  by_cases h1 : l < 1
  · simp [h1] at h
  · by_cases h2 : 2 < l
    · simp [h1, h2] at h
    · by_cases h3 : m < 1
      · simp [h1, h2, h3] at h
      · by_cases h4 : 1000 < m
        · simp [h1, h2, h3, h4] at h
        · omega
theorem may_new {b : TBase} (h : F46_crossroadsref23_May b = true) : 1 ≤ b.Level ∧ b.Level ≤ 2 ∧ 1 ≤ b.Max ∧ b.Max ≤ 1000 ∧ (b.L.length : Int) ≤ b.Max ∧ F46_crossroadsref23_May_l1 b 0 b.L = .ok () := by
  unfold F46_crossroadsref23_May at h
  rw [refNew_eq] at h
  have hn := @new_ok b.Level b.Max
  generalize F24_link_New b.Level b.Max = r at h hn
  obtain ⟨y, e⟩ := r
  simp only [Bool.and_eq_true, decide_eq_true_eq] at h
  obtain ⟨h1, h2⟩ := h
  obtain ⟨a1, a2, a3, a4⟩ := hn h1
  by_cases h3 : b.Max < (b.L.length : Int)
  · simp [h3] at h2
  · simp only [h3, decide_false, cond_false] at h2
    refine ⟨a1, a2, a3, a4, by omega, ?_⟩
    have herr : ∀ (l : List TLsp) (i : Nat) (r : Bool), F46_crossroadsref23_May_l1 b i l = .error r → r = false := by
      intro l
      induction l with
      | nil => intro i r h; unfold F46_crossroadsref23_May_l1 at h; cases h
      | cons x l ih =>
        intro i r h
        unfold F46_crossroadsref23_May_l1 at h
        dsimp only at h
        cases hm : F53_crossroadsref23_mayLsp x b.Level with
        | false => rw [hm] at h; simp only [cond_false] at h; injection h with h; exact h.symm
        | true =>
          rw [hm] at h
          simp only [cond_true] at h
          cases hc : decide (0 < (i : Int)) with
          | false => rw [hc] at h; exact ih _ _ h
          | true =>
            rw [hc] at h
            simp only [cond_true] at h
            cases hd : decide (x.ID ≤ (b.L.getD (i - 1) default).ID) with
            | false => rw [hd] at h; exact ih _ _ h
            | true => rw [hd] at h; simp only [cond_true] at h; injection h with h; exact h.symm
    cases e2 : F46_crossroadsref23_May_l1 b 0 b.L with
    | ok u => rfl
    | error r => rw [e2] at h2; have := herr _ _ _ e2; subst this; cases h2
theorem post_small2 (b : TBase) : F16_crossroadslaw23_small b = true → b.Max ≤ 1000 := fun h => by
  have := (small_ok h).2
  rw [plain_eq] at this
  exact (may_new this).2.2.2.1
theorem gives_l1 (from_ : TBase) (hf : SmB from_) : ∀ (l : List Int) (to : TBase), SmB to → to.Max ≤ 1000 → SmB (F19_crossroadslaw23_gives_l1 from_ to l) ∧ (F19_crossroadslaw23_gives_l1 from_ to l).Max ≤ 1000
  | [], to, h, hm => by unfold F19_crossroadslaw23_gives_l1; exact ⟨h, hm⟩
  | i :: l, to, h, hm => by
    unfold F19_crossroadslaw23_gives_l1
    have hx := post_Find from_ i hf
    generalize F47_link_Find from_ i = r at hx
    obtain ⟨x, is⟩ := r
    cases is with
    | false => exact gives_l1 from_ hf l to h hm
    | true => exact gives_l1 from_ hf l _ (post_Put1 to x h hm hx) (post_Put2 to x h hm hx)
theorem post_gives (to from_ : TBase) (l : List Int) (h : SmB to) (hm : to.Max ≤ 1000) (hf : SmB from_) : SmB (F19_crossroadslaw23_gives to from_ l) ∧ (F19_crossroadslaw23_gives to from_ l).Max ≤ 1000 := gives_l1 from_ hf l to h hm
theorem post_gives1 (to from_ : TBase) (l : List Int) (h : SmB to) (hm : to.Max ≤ 1000) (hf : SmB from_) : SmB (F19_crossroadslaw23_gives to from_ l) := (post_gives to from_ l h hm hf).1
theorem post_gives2 (to from_ : TBase) (l : List Int) (h : SmB to) (hm : to.Max ≤ 1000) (hf : SmB from_) : (F19_crossroadslaw23_gives to from_ l).Max ≤ 1000 := (post_gives to from_ l h hm hf).2
theorem post_Differ1 (b : TBase) (x : TList) (h : SmB b) (hx : x.L.length ≤ 1000) : (F18_link_Differ b x).1.length ≤ 1000 ∧ (F18_link_Differ b x).2.length ≤ 1000 := post_Differ b x h.nL hx
theorem into_cnt (x : TLsp) : ∀ (l out : List TLsp) (p : Bool), (F55_crossroadsref23_into_l1 x p out l).2.length + (bif (F55_crossroadsref23_into_l1 x p out l).1 then 0 else 1) = out.length + (l.filter fun y => !decide (y.ID = x.ID)).length + (bif p then 0 else 1)
  | [], out, p => by unfold F55_crossroadsref23_into_l1; simp
  | a :: l, out, p => by
    unfold F55_crossroadsref23_into_l1
    have ih := into_cnt x l
    rw [List.filter_cons]
    by_cases h1 : a.ID = x.ID
    · cases p <;> simp only [cond_true, cond_false, h1, decide_true, Bool.not_true, if_false, Int.le_refl, ih, List.length_append, List.length_cons, List.length_nil, Bool.false_eq_true] <;> omega
    · by_cases h2 : x.ID ≤ a.ID <;> cases p <;> simp only [cond_true, cond_false, h1, h2, decide_true, decide_false, Bool.not_false, if_true, ih, List.length_append, List.length_cons, List.length_nil] <;> omega
theorem into_cnt2 (b : TBase) (x : TLsp) : (F55_crossroadsref23_into b x).L.length = (b.L.filter fun y => !decide (y.ID = x.ID)).length + 1 ∧ (F55_crossroadsref23_into b x).Max = b.Max ∧ (F55_crossroadsref23_into b x).Level = b.Level ∧ (F55_crossroadsref23_into b x).Over = b.Over := by
  unfold F55_crossroadsref23_into
  have h1 := into_cnt x b.L [] false
  generalize F55_crossroadsref23_into_l1 x false [] b.L = r at h1
  obtain ⟨p, o⟩ := r
  simp only [List.length_nil, cond_false] at h1
  cases p <;> simp only [cond_true, cond_false] at h1 ⊢
  · exact ⟨by simp; omega, trivial, trivial, trivial⟩
  · exact ⟨by omega, trivial, trivial, trivial⟩
theorem filter_lt {l : List TLsp} {x : TLsp} {i : Int} (hx : x ∈ l) (h : x.ID = i) : (l.filter fun y => !decide (y.ID = i)).length < l.length := by
  induction l with
  | nil => cases hx
  | cons a l ih =>
    rw [List.filter_cons]
    have hle : (l.filter fun y => !decide (y.ID = i)).length ≤ l.length := List.length_filter_le _ _
    rcases List.mem_cons.1 hx with rfl | hx
    · simp only [h, decide_true, Bool.not_true, Bool.false_eq_true, if_false, List.length_cons]; omega
    · have := ih hx
      split <;> simp only [List.length_cons] <;> omega
theorem post_rPut (b : TBase) (x : TLsp) (h : SmB b) (hm : b.Max ≤ 1000) (hx : x.Things.length ≤ 100) : SmB (F29_crossroadsref23_Put b x).1 ∧ (F29_crossroadsref23_Put b x).1.Max = b.Max := by
  unfold F29_crossroadsref23_Put F54_crossroadsref23_Find
  rw [refFind_l1]
  obtain ⟨c1, c2, c3, c4⟩ := into_cnt2 b x
  have c5 := (into_len b x).2
  have hall : ∀ y ∈ (F55_crossroadsref23_into b x).L, y.Things.length ≤ 100 := by
    intro y hy
    rcases c5 y hy with h1 | h1
    · exact h.all y h1
    · exact h1 ▸ hx
  cases F53_crossroadsref23_mayLsp x b.Level with
  | false => simp only [cond_false]; exact ⟨h, by trivial⟩
  | true =>
    cases e : b.L.find? fun y => decide (y.ID = x.ID) with
    | none =>
      simp only [cond_true, cond_false]
      by_cases hc : b.Max ≤ (b.L.length : Int)
      · simp only [hc, decide_true, cond_true]; exact ⟨h.ini _ _ _, by trivial⟩
      · simp only [hc, decide_false, cond_false]
        have := List.length_filter_le (fun y : TLsp => !decide (y.ID = x.ID)) b.L
        exact ⟨⟨by omega, hall⟩, c2⟩
    | some y =>
      simp only [cond_true]
      generalize F9_crossroadsref23_Compare (F56_crossroadsref23_Entry x) (F56_crossroadsref23_Entry y) = k
      by_cases hk : 0 < k
      · simp only [hk, decide_true, cond_true]
        have hy := List.mem_of_find?_eq_some e
        have he : y.ID = x.ID := by simpa using List.find?_some e
        have := filter_lt hy he
        have := h.nL
        exact ⟨⟨by omega, hall⟩, c2⟩
      · simp only [hk, decide_false, cond_false]; exact ⟨h, trivial⟩
theorem post_rPut1 (b : TBase) (x : TLsp) (h : SmB b) (hm : b.Max ≤ 1000) (hx : x.Things.length ≤ 100) : SmB (F29_crossroadsref23_Put b x).1 := (post_rPut b x h hm hx).1
theorem post_rPut2 (b : TBase) (x : TLsp) (h : SmB b) (hm : b.Max ≤ 1000) (hx : x.Things.length ≤ 100) : (F29_crossroadsref23_Put b x).1.Max ≤ 1000 := (post_rPut b x h hm hx).2 ▸ hm
end Go.Proofs.Ytpcpclbdajebjaa.Abs
