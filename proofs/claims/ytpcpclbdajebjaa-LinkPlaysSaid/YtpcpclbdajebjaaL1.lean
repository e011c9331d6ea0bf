/- LinkOrder and LinkEntry, of the Lean functions. Plain law: no program in sight. -/
import Derived.Test.YtpcpclbdajebjaaSz
import Derived.Test.YtpcpclbdajebjaaTy
import Derived.KernelRfl
set_option linter.unusedVariables false
set_option linter.unusedSimpArgs false
namespace Go.Proofs.Ytpcpclbdajebjaa.Abs
open Go

theorem alive_true : F11_crossroadslaw23_alive = true := by kernel_rfl

def sgn (x y : Int) : Int := if x < y then -1 else if y < x then 1 else 0
theorem cmp38 (x y : Int) : F38_cmp_Compare x y = sgn x y := by
  unfold F38_cmp_Compare F58_cmp_isNaN sgn
  by_cases h : x < y
  · simp [h]
  · by_cases h2 : y < x <;> simp [h, h2]
theorem cmp40 (x y : Int) : F40_cmp_Compare x y = sgn x y := by
  unfold F40_cmp_Compare F59_cmp_isNaN sgn
  by_cases h : x < y
  · simp [h]
  · by_cases h2 : y < x <;> simp [h, h2]
def ovr (e : TEntry) : Int := if e.Life = 0 then 1 else 0
theorem over_eq (e : TEntry) : F39_link_over e = ovr e := by
  unfold F39_link_over ovr
  by_cases h : e.Life = 0 <;> simp [h]
/-- What 'Compare' says. -/
theorem compare_eq (a b : TEntry) : F8_link_Compare a b = if a.Seq < b.Seq then -1 else if b.Seq < a.Seq then 1 else if a.Life ≠ 0 ∧ b.Life = 0 then -1 else if a.Life = 0 ∧ b.Life ≠ 0 then 1 else if a.Sum < b.Sum then -1 else if b.Sum < a.Sum then 1 else 0 := by
  unfold F8_link_Compare
  simp only [cmp38, cmp40, over_eq]
  have hw : IntKind.i64.wrap (ovr a - ovr b) = ovr a - ovr b := by
    unfold ovr
    split <;> split <;> decide
  rw [hw]
  unfold F37_cmp_Or F37_cmp_Or_l1 F37_cmp_Or_l1 F37_cmp_Or_l1 F37_cmp_Or_l1 sgn ovr
  by_cases h1 : a.Seq < b.Seq
  · simp [h1]
  · by_cases h2 : b.Seq < a.Seq
    · simp [h1, h2]
    · by_cases h3 : a.Life = 0 <;> by_cases h4 : b.Life = 0 <;> by_cases h5 : a.Sum < b.Sum <;> by_cases h6 : b.Sum < a.Sum <;> simp [h1, h2, h3, h4, h5, h6]
theorem refCompare_eq (a b : TEntry) : F9_crossroadsref23_Compare a b = F8_link_Compare a b := by
  rw [compare_eq]
  unfold F9_crossroadsref23_Compare F41_crossroadsref23_more
  by_cases h1 : a.Seq = b.Seq
  · by_cases h3 : a.Life = 0 <;> by_cases h4 : b.Life = 0 <;> by_cases h5 : a.Sum = b.Sum <;> by_cases h6 : b.Sum < a.Sum <;> simp [h1, h3, h4, h5, h6] <;> omega
  · by_cases h2 : b.Seq < a.Seq
    · have : ¬ a.Seq < b.Seq := by omega
      simp [h1, h2, this]
    · have : a.Seq < b.Seq := by omega
      simp [h1, h2, this]

theorem compare_rng (a b : TEntry) : -1 ≤ F8_link_Compare a b ∧ F8_link_Compare a b ≤ 1 := by
  rw [compare_eq]
  (repeat' split) <;> omega
theorem compare_swap (a b : TEntry) : F8_link_Compare b a = -F8_link_Compare a b := by
  rw [compare_eq, compare_eq]
  (repeat' split) <;> omega
theorem compare_self (a : TEntry) : F8_link_Compare a a = 0 := by
  rw [compare_eq]
  (repeat' split) <;> omega
theorem ovr_rng (a : TEntry) : 0 ≤ ovr a ∧ ovr a ≤ 1 := by unfold ovr; split <;> omega
theorem compare_ge (a b : TEntry) : 0 ≤ F8_link_Compare a b ↔ (b.Seq < a.Seq ∨ (a.Seq = b.Seq ∧ (ovr b < ovr a ∨ (ovr a = ovr b ∧ b.Sum ≤ a.Sum)))) := by
  rw [compare_eq]
  unfold ovr
  by_cases h3 : a.Life = 0 <;> by_cases h4 : b.Life = 0 <;> simp only [h3, h4, ne_eq, not_true, not_false_iff, and_true, true_and, and_false, false_and, if_true, if_false] <;> ((repeat' split) <;> omega)
theorem compare_gt (a b : TEntry) : 0 < F8_link_Compare a b ↔ (b.Seq < a.Seq ∨ (a.Seq = b.Seq ∧ (ovr b < ovr a ∨ (ovr a = ovr b ∧ b.Sum < a.Sum)))) := by
  rw [compare_eq]
  unfold ovr
  by_cases h3 : a.Life = 0 <;> by_cases h4 : b.Life = 0 <;> simp only [h3, h4, ne_eq, not_true, not_false_iff, and_true, true_and, and_false, false_and, if_true, if_false] <;> ((repeat' split) <;> omega)
theorem compare_trans (a b c : TEntry) (h1 : 0 ≤ F8_link_Compare a b) (h2 : 0 ≤ F8_link_Compare b c) : 0 ≤ F8_link_Compare a c := by
  rw [compare_ge] at h1 h2 ⊢
  omega
theorem compare_trans1 (a b c : TEntry) (h1 : 0 < F8_link_Compare a b) (h2 : 0 < F8_link_Compare b c) : 0 < F8_link_Compare a c := by
  rw [compare_gt] at h1 h2 ⊢
  omega

theorem linkOrder_true (a b c : TEntry) (h0 : TEntry.ok a) (h1 : TEntry.ok b) (h2 : TEntry.ok c) : F3_crossroadslaw23_LinkOrder a b c = true := by
  unfold F3_crossroadslaw23_LinkOrder
  have hw : IntKind.i64.wrap (-F8_link_Compare a b) = -F8_link_Compare a b := by
    have := compare_rng a b
    exact wi64 (by omega) (by omega)
  simp only [F10_crossroadslaw23_entry, refCompare_eq, alive_true, compare_self, hw, compare_swap a b, decide_true, Bool.true_and]
  have e1 := compare_trans a b c
  have e2 := compare_trans1 a b c
  have key : (decide (F8_link_Compare a b ≤ 0) || (decide (F8_link_Compare b c ≤ 0) || decide (0 < F8_link_Compare a c))) = true := by
    by_cases h1 : F8_link_Compare a b ≤ 0
    · simp [h1]
    · by_cases h2 : F8_link_Compare b c ≤ 0
      · simp [h2]
      · simp [e2 (by omega) (by omega)]
  rw [key]
  by_cases h1 : F8_link_Compare a b < 0
  · simp [h1]
  · by_cases h2 : F8_link_Compare b c < 0
    · simp [h2]
    · simp [e1 (by omega) (by omega)]

theorem bytes_self (a : List Int) : F60_bytes_Equal a a = true := by unfold F60_bytes_Equal; exact beq_self_eq_true _
theorem thing_self (a : TThing) : F45_link_isThing a a = true := by
  unfold F45_link_isThing
  simp [bytes_self]
theorem things_l1 (s : List TThing) : ∀ (l : List TThing) (i : Nat), l.length + i = s.length → l = s.drop i → F44_slices_EqualFunc_l1 s (fun y0 y1 => F45_link_isThing y0 y1) i l = .ok ()
  | [], i, _, _ => by unfold F44_slices_EqualFunc_l1; rfl
  | x :: l, i, h, e => by
    unfold F44_slices_EqualFunc_l1
    have hx : s.getD i default = x := by
      have : (s.drop i)[0]? = some x := by rw [← e]; rfl
      rw [List.getElem?_drop, Nat.add_zero] at this
      rw [List.getD_eq_getElem?_getD, this]
      rfl
    have hl : l = s.drop (i + 1) := by rw [← List.drop_drop, ← e]; rfl
    simp only [hx, thing_self, cond_true]
    exact things_l1 s l (i + 1) (by simp at h; omega) hl
theorem things_self (s : List TThing) : F44_slices_EqualFunc s s (fun y0 y1 => F45_link_isThing y0 y1) = true := by
  unfold F44_slices_EqualFunc
  rw [things_l1 s s 0 (by omega) rfl]
  simp

theorem linkEntry_true (x : TLsp) (h0 : TLsp.ok x) : F4_crossroadslaw23_LinkEntry x = true := by
  unfold F4_crossroadslaw23_LinkEntry
  cases F12_crossroadslaw23_little x with
  | false => simp only [cond_false, alive_true]
  | true =>
    have h1 : F43_link_Alike_1 x x = true := by
      unfold F43_link_Alike_1
      simp [compare_self, things_self]
    have h2 : F15_link_Alike ⟨0, 0, [x], false⟩ ⟨0, 0, [x], false⟩ = true := by
      unfold F15_link_Alike F42_slices_EqualFunc F42_slices_EqualFunc_l1 F42_slices_EqualFunc_l1
      simp [h1]
    have h3 : F15_link_Alike ⟨0, 0, [x], false⟩ ⟨0, 0, [⟨x.Level, x.Life, x.ID, x.Seq, x.Sum, x.Bits, F13_crossroadslaw23_thing 1 ++ x.Things⟩], false⟩ = false := by
      have hne : F44_slices_EqualFunc x.Things (F13_crossroadslaw23_thing 1 ++ x.Things) (fun y0 y1 => F45_link_isThing y0 y1) = false := by
        unfold F44_slices_EqualFunc
        have : ¬ (x.Things.length : Int) = ((F13_crossroadslaw23_thing 1 ++ x.Things).length : Int) := by
          rw [List.length_append, post_thing]
          omega
        simp only [this, decide_false, Bool.false_and]
      have hA : F43_link_Alike_1 x ⟨x.Level, x.Life, x.ID, x.Seq, x.Sum, x.Bits, F13_crossroadslaw23_thing 1 ++ x.Things⟩ = false := by
        unfold F43_link_Alike_1
        simp only [hne, Bool.and_false]
      unfold F15_link_Alike F42_slices_EqualFunc F42_slices_EqualFunc_l1
      simp [hA]
    simp only [cond_true, alive_true, h2, h3, F14_link_Entry]
    simp
end Go.Proofs.Ytpcpclbdajebjaa.Abs
