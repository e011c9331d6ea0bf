/- Prefixes and rules: the program's words and the document's are one. Plain law: no program in sight. -/
import Derived.Test.YtkdhongicibhbaaDoorPu
import Derived.Test.YtkdhongicibhbaaDoorA23
import Derived.Test.YtkdhongicibhbaaDoorB1
set_option linter.unusedVariables false
set_option linter.unusedSimpArgs false
namespace Go.Proofs.YtkdhongicibhbaaDoor.Abs
open Go

theorem u32_nat {x : Int} (h : InK .u32 x) : ∃ a : Nat, x = (a : Int) ∧ a < 4294967296 := by
  obtain ⟨h1, h2⟩ := h
  have e1 : IntKind.u32.min = 0 := by decide
  have e2 : IntKind.u32.max = 4294967295 := by decide
  rw [e1] at h1; rw [e2] at h2
  exact ⟨x.toNat, by omega, by omega⟩

theorem addrMay_iff {p : TPrefix} (h : InK .u32 p.A) : F17_addr_May p = true ↔ ∃ a n : Nat, p.A = a ∧ p.N = n ∧ a < 4294967296 ∧ n ≤ 32 ∧ a % 2 ^ (32 - n) = 0 := by
  obtain ⟨a, ha, hlt⟩ := u32_nat h
  unfold F17_addr_May F39_addr_isLong F16_addr_Mask
  simp only [Bool.and_eq_true, decide_eq_true_eq]
  constructor
  · rintro ⟨⟨h1, h2⟩, h3⟩
    obtain ⟨n, hn⟩ := Int.eq_ofNat_of_zero_le h1
    have hn32 : n ≤ 32 := by omega
    rw [hn, ha, mask_eq hn32, andNot_mask hlt hn32] at h3
    exact ⟨a, n, ha, hn, hlt, hn32, by exact_mod_cast h3⟩
  · rintro ⟨a', n, h1, h2, h3, h4, h5⟩
    have : a' = a := by omega
    subst this
    refine ⟨by omega, ?_⟩
    rw [h2, h1, mask_eq h4, andNot_mask h3 h4, h5]
    rfl

theorem bit60 {a i : Nat} (ha : a < 4294967296) (hi : i < 32) : F29_crossroadsref03_Bit (a : Int) (i : Int) = if a.testBit (31 - i) then 1 else 0 := by
  unfold F29_crossroadsref03_Bit
  have h1 : ¬ ((i : Int) < 0) := by omega
  have h2 : ¬ (31 < (i : Int)) := by omega
  simp only [h1, h2, decide_false, cond_false]
  exact bit_eq ha hi

theorem may_l1 {p : TPrefix} {a : Nat} (ha : p.A = a) (hlt : a < 4294967296) : ∀ (fuel i : Nat), i ≤ 32 → 32 - i ≤ fuel → (F26_crossroadsref03_May_l1 p fuel i = .ok () ∧ (∀ j, i ≤ j → j < 32 → a.testBit (31 - j) = false)) ∨ (F26_crossroadsref03_May_l1 p fuel i = .error false ∧ ∃ j, i ≤ j ∧ j < 32 ∧ a.testBit (31 - j) = true)
  | fuel, i, hi, hf => by
    unfold F26_crossroadsref03_May_l1
    by_cases h : i < 32
    · have h' : (i : Int) < 32 := by omega
      match fuel, hf with
      | 0, hf => exact absurd hf (by omega)
      | fuel + 1, hf =>
        simp only [h', decide_true, cond_true]
        rw [ha, bit60 hlt h]
        cases hb : a.testBit (31 - i) with
        | true => right; exact ⟨by simp, i, Nat.le_refl _, h, hb⟩
        | false =>
          have e : IntKind.i64.wrap ((i : Int) + 1) = ((i + 1 : Nat) : Int) := by rw [wi64 (by omega) (by omega)]; omega
          rw [e]
          have ih := may_l1 ha hlt fuel (i + 1) (by omega) (by omega)
          rcases ih with ⟨h1, h2⟩ | ⟨h1, j, h2, h3, h4⟩
          · left
            refine ⟨by simpa using h1, fun j hj hj' => ?_⟩
            rcases Nat.eq_or_lt_of_le hj with rfl | hlt'
            · exact hb
            · exact h2 j hlt' hj'
          · right
            exact ⟨by simpa using h1, j, by omega, h3, h4⟩
    · have h' : ¬ ((i : Int) < 32) := by omega
      simp only [h', decide_false, cond_false]
      left
      exact ⟨trivial, fun j hj hj' => by omega⟩

theorem fuel_nat {i B : Nat} (hi : i ≤ 4294967296) (hB : B ≤ 4294967296) : fuelUp (i : Int) (B : Int) = B - i := by
  unfold fuelUp
  rw [if_pos (by omega)]
  omega

theorem refMay_iff {p : TPrefix} (h : InK .u32 p.A) : F26_crossroadsref03_May p = true ↔ ∃ a n : Nat, p.A = a ∧ p.N = n ∧ a < 4294967296 ∧ n ≤ 32 ∧ a % 2 ^ (32 - n) = 0 := by
  obtain ⟨a, ha, hlt⟩ := u32_nat h
  unfold F26_crossroadsref03_May
  by_cases h1 : p.N < 0
  · simp only [h1, decide_true, cond_true]
    simp only [Bool.false_eq_true, false_iff]
    rintro ⟨_, n, _, h2, _⟩
    omega
  · by_cases h2 : 32 < p.N
    · simp only [h1, h2, decide_true, decide_false, cond_true, cond_false]
      simp only [Bool.false_eq_true, false_iff]
      rintro ⟨_, n, _, h2, _, h3, _⟩
      omega
    · simp only [h1, h2, decide_false, cond_false]
      obtain ⟨n, hn⟩ := Int.eq_ofNat_of_zero_le (show 0 ≤ p.N by omega)
      have hn32 : n ≤ 32 := by omega
      have hz : (∀ j, n ≤ j → j < 32 → a.testBit (31 - j) = false) ↔ a % 2 ^ (32 - n) = 0 := by
        rw [low_zero]
        constructor
        · intro h j hj
          have := h (31 - j) (by omega) (by omega)
          rwa [show 31 - (31 - j) = j by omega] at this
        · intro h j hj hj'
          exact h _ (by omega)
      have hf : fuelUp p.N 32 = 32 - n := by rw [hn]; exact fuel_nat (B := 32) (by omega) (by decide)
      rw [hf, hn]
      rcases may_l1 ha hlt (32 - n) n hn32 (Nat.le_refl _) with ⟨k1, k2⟩ | ⟨k1, j, k2, k3, k4⟩
      · rw [k1]
        simp only [true_iff]
        exact ⟨a, n, ha, rfl, hlt, hn32, hz.1 k2⟩
      · rw [k1]
        simp only [Bool.false_eq_true, false_iff]
        rintro ⟨a', n', g1, g2, g3, g4, g5⟩
        have e1 : a' = a := by omega
        have e2 : n' = n := by omega
        subst e1 e2
        have := hz.2 g5 j k2 k3
        rw [k4] at this
        cases this

theorem may_same {p : TPrefix} (h : InK .u32 p.A) : F17_addr_May p = F26_crossroadsref03_May p := by
  rw [Bool.eq_iff_iff, addrMay_iff h, refMay_iff h]

theorem has_l1 {p : TPrefix} {a b n : Nat} (hp : p.A = a) (hn : p.N = n) (hn32 : n ≤ 32) (ha : a < 4294967296) (hb : b < 4294967296) : ∀ (fuel i : Nat), i ≤ n → n - i ≤ fuel →
    (F27_crossroadsref03_Has_l1 p b fuel i = .ok () ∧ (∀ j, i ≤ j → j < n → a.testBit (31 - j) = b.testBit (31 - j))) ∨ (F27_crossroadsref03_Has_l1 p b fuel i = .error false ∧ ∃ j, i ≤ j ∧ j < n ∧ a.testBit (31 - j) ≠ b.testBit (31 - j))
  | fuel, i, hi, hf => by
    unfold F27_crossroadsref03_Has_l1
    by_cases h : i < n
    · have h' : (i : Int) < p.N := by omega
      match fuel, hf with
      | 0, hf => exact absurd hf (by omega)
      | fuel + 1, hf =>
        simp only [h', decide_true, cond_true]
        rw [hp, bit60 ha (by omega), bit60 hb (by omega)]
        by_cases hbit : a.testBit (31 - i) = b.testBit (31 - i)
        · rw [hbit]
          have e : IntKind.i64.wrap ((i : Int) + 1) = ((i + 1 : Nat) : Int) := by rw [wi64 (by omega) (by omega)]; omega
          rw [e]
          have ih := has_l1 hp hn hn32 ha hb fuel (i + 1) (by omega) (by omega)
          rcases ih with ⟨h1, h2⟩ | ⟨h1, j, h2, h3, h4⟩
          · left
            refine ⟨by simpa using h1, fun j hj hj' => ?_⟩
            rcases Nat.eq_or_lt_of_le hj with rfl | hlt'
            · exact hbit
            · exact h2 j hlt' hj'
          · right
            exact ⟨by simpa using h1, j, by omega, h3, h4⟩
        · right
          refine ⟨?_, i, Nat.le_refl _, h, hbit⟩
          cases h1 : a.testBit (31 - i) <;> cases h2 : b.testBit (31 - i) <;> simp_all
    · have h' : ¬ ((i : Int) < p.N) := by omega
      simp only [h', decide_false, cond_false]
      left
      exact ⟨trivial, fun j hj hj' => by omega⟩

/-- Has, of prefixes that may be. -/
theorem has_same {p : TPrefix} {x : Int} (h : InK .u32 p.A) (hx : InK .u32 x) : F22_addr_Has p x = F27_crossroadsref03_Has p x := by
  unfold F22_addr_Has F27_crossroadsref03_Has
  rw [may_same h]
  cases hm : F26_crossroadsref03_May p with
  | false => rfl
  | true =>
    obtain ⟨a, n, h1, h2, h3, h4, h5⟩ := (refMay_iff h).1 hm
    obtain ⟨b, rfl, hb⟩ := u32_nat hx
    simp only [Bool.true_and]
    unfold F16_addr_Mask
    have hf : fuelUp 0 p.N = n := by rw [h2]; exact fuel_nat (i := 0) (by omega) (by omega)
    rw [hf, h2, mask_eq h4, and_mask hb h4]
    have key : (b / 2 ^ (32 - n) * 2 ^ (32 - n) = a) ↔ ∀ j, 0 ≤ j → j < n → a.testBit (31 - j) = b.testBit (31 - j) := by
      have e : a / 2 ^ (32 - n) * 2 ^ (32 - n) = a := Nat.div_mul_cancel (Nat.dvd_of_mod_eq_zero h5)
      have e2 : (b / 2 ^ (32 - n) * 2 ^ (32 - n) = a) ↔ a / 2 ^ (32 - n) = b / 2 ^ (32 - n) := by
        constructor
        · intro g
          rw [← g, Nat.mul_div_cancel _ (Nat.two_pow_pos _)]
        · intro g
          rw [← g, e]
      rw [e2, high_same h3 hb]
      constructor
      · intro g j _ hj
        exact g _ (by omega) (by omega)
      · intro g j hj hj'
        have := g (31 - j) (Nat.zero_le _) (by omega)
        rwa [show 31 - (31 - j) = j by omega] at this
    rcases has_l1 h1 h2 h4 h3 hb n 0 (Nat.zero_le _) (Nat.le_refl _) with ⟨k1, k2⟩ | ⟨k1, j, k2, k3, k4⟩
    · have k1' : F27_crossroadsref03_Has_l1 p b n 0 = .ok () := k1
      rw [k1']
      have := key.2 k2
      rw [this, h1]
      simp
    · have k1' : F27_crossroadsref03_Has_l1 p b n 0 = .error false := k1
      rw [k1', h1]
      simp only [decide_eq_false_iff_not]
      intro g
      have g' : b / 2 ^ (32 - n) * 2 ^ (32 - n) = a := by exact_mod_cast g
      exact k4 (key.1 g' j k2 k3)

theorem covers_same {p q : TPrefix} (h : InK .u32 p.A) (hq : InK .u32 q.A) : F14_addr_Covers p q = F18_crossroadsref03_Covers p q := by
  unfold F14_addr_Covers F18_crossroadsref03_Covers
  rw [may_same hq, has_same h hq]
  unfold F27_crossroadsref03_Has
  cases F26_crossroadsref03_May p <;> cases F26_crossroadsref03_May q <;> simp

end Go.Proofs.YtkdhongicibhbaaDoor.Abs
