/- Sizes, and what stays true, in the words that the walks ask for. -/
import Derived.Test.YtlemcljcmfphcaaEn
import Derived.Test.YtlemcljcmfphcaaL3
set_option linter.unusedVariables false
namespace Go.Proofs.Ytlemcljcmfphcaa.Abs
open Go

theorem InvW.szD {w : TWorld} (h : InvW w) {b : Nat} (hb : b ≤ 1000) : w.D.length * b ≤ 140737488355328 :=
  Nat.le_trans (Nat.mul_le_mul h.nD hb) (by decide)
theorem InvW.leD {w : TWorld} (h : InvW w) : w.D.length ≤ 9223372036854775807 := by have := h.nD; omega
theorem InvW.le1000 {w : TWorld} (h : InvW w) : w.D.length ≤ 1000 := by have := h.nD; omega
theorem InvD.szE {d : TDomain} (h : InvD d) {b : Nat} (hb : b ≤ 1000) : d.Ext.length * b ≤ 140737488355328 :=
  Nat.le_trans (Nat.mul_le_mul h.nEx hb) (by decide)
theorem InvD.leE {d : TDomain} (h : InvD d) : d.Ext.length ≤ 9223372036854775807 := by have := h.nEx; omega
theorem InvD.le1000 {d : TDomain} (h : InvD d) : d.Ext.length ≤ 1000 := by have := h.nEx; omega
theorem InvD.szI {d : TDomain} (h : InvD d) {b : Nat} (hb : b ≤ 1000) : d.In.length * b ≤ 140737488355328 :=
  Nat.le_trans (Nat.mul_le_mul h.nIn hb) (by decide)
theorem InvD.leI {d : TDomain} (h : InvD d) : d.In.length ≤ 9223372036854775807 := by have := h.nIn; omega

theorem lt_found {b : Bool} {a n : Int} (h : b = true → a < n) (hb : b = true) : a < n := h hb

theorem same_at {α : Type} {L : List α} {i j : Nat} {x y : α} (h : L[i]? = some x) (h2 : L[j]? = some y) (e : (i : Int) = (j : Int)) : x = y := by
  have : i = j := by omega
  subst this
  rw [h] at h2
  exact Option.some.inj h2
theorem post_is (w : TWorld) (i : Int) : F30_redist_World_is w i = true → 0 ≤ i ∧ i < (w.D.length : Int) := by
  rw [is_eq]
  simp
theorem post_own (d : TDomain) (p : TPrefix) (h : InvD d) : 0 ≤ (F33_redist_Domain_own d p).1 ∧ (F33_redist_Domain_own d p).1 ≤ (d.In.length : Int) ∧ d.In.length ≤ 50 := by
  obtain ⟨k, k1, k2⟩ := own_eq h p
  rw [k1]
  exact ⟨Int.natCast_nonneg _, by have := k2.le; simp; omega, h.nIn⟩
theorem post_at (d : TDomain) (p : TPrefix) (h : InvD d) : 0 ≤ (F43_redist_Domain_at d p).1 ∧ (F43_redist_Domain_at d p).1 ≤ (d.Ext.length : Int) ∧ d.Ext.length ≤ 50 := by
  obtain ⟨k, k1, k2⟩ := at_eq h p
  rw [k1]
  exact ⟨Int.natCast_nonneg _, by have := k2.le; simp; omega, h.nEx⟩
theorem post_at2 (d : TDomain) (p : TPrefix) (h : InvD d) : (F43_redist_Domain_at d p).2 = true → (F43_redist_Domain_at d p).1 < (d.Ext.length : Int) := by
  obtain ⟨k, k1, k2⟩ := at_eq h p
  rw [k1]
  intro hf
  have := ((k2.found h.sEx).2 (by simpa using hf)).1
  simp
  omega
theorem post_wo (d : TDomain) (p : TPrefix) (h : InvD d) : (F32_redist_Domain_without d p).1.In.length ≤ 50 ∧ (F32_redist_Domain_without d p).1.Ext.length ≤ 50 := by
  rw [wo_eq h p]
  exact ⟨(inv_filter h p).nIn, (inv_filter h p).nEx⟩
theorem post_woI (d : TDomain) (p : TPrefix) (h : InvD d) : InvD (F32_redist_Domain_without d p).1 := by
  rw [wo_eq h p]
  exact inv_filter h p
theorem post_without (l : List TExt) (p : TPrefix) : (F40_crossroadsref28_without l p).length ≤ l.length := by
  rw [without_eq]
  exact List.length_filter_le _ _
theorem post_i15 (w : TWorld) (i : Int) (p : TPrefix) (h : InvW w) : InvW (F15_redist_Own w i p).1 := own_inv h i p
theorem post_i16 (w : TWorld) (i : Int) (p : TPrefix) (h : InvW w) : InvW (F16_crossroadsref28_Own w i p).1 := own_inv16 h i p
theorem post_i17 (w : TWorld) (b : TBorder) (p : TPrefix) (h : InvW w) : InvW (F17_redist_Tell w b p).1 := tell_inv h b p
theorem post_i18 (w : TWorld) (b : TBorder) (p : TPrefix) (h : InvW w) : InvW (F18_crossroadsref28_Tell w b p).1 := tell_inv18 h b p
theorem post_i19 (w : TWorld) (i : Int) (p : TPrefix) (h : InvW w) : InvW (F19_redist_Cease w i p).1 := cease_inv h i p
theorem post_i20 (w : TWorld) (i : Int) (p : TPrefix) (h : InvW w) : InvW (F20_crossroadsref28_Cease w i p).1 := cease_inv20 h i p
theorem post_i24 (w : TWorld) (l : List TAct) (h : InvW w) : InvW (F24_redist_Run w l) := run_inv h l
theorem post_i25 (w : TWorld) (l : List TAct) (h : InvW w) : InvW (F25_crossroadsref28_Run w l) := run_inv25 h l
theorem post_i27 (w : TWorld) (l : List TBorder) (h : InvW w) : InvW (F27_redist_Sweep w l).1 := sweep_inv h l
theorem post_i28 (w : TWorld) (l : List TBorder) (h : InvW w) : InvW (F28_crossroadsref28_Sweep w l).1 := sweep_inv28 h l
theorem post_i51 (w : TWorld) (l : List TBorder) (h : InvW w) : InvW (F51_redist_once w l).1 := once_inv h l
theorem post_i13 (w : TWorld) (h : InvW w) : InvW (F13_crossroadslaw28_plain w) := by rw [plain_eq]; exact h
theorem post_i10 (t : List Int) : InvW (F10_redist_New t).1 := new_inv t
theorem post_i11 (t : List Int) : InvW (F11_crossroadsref28_New t).1 := new_both t ▸ new_inv t
theorem post_i9 (t : List Int) (s : List TAct) : InvW (F9_crossroadslaw28_built t s).1 := built_inv t s
end Go.Proofs.Ytlemcljcmfphcaa.Abs
