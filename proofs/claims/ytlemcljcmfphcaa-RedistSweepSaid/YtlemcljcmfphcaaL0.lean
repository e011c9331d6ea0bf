/- Which prefixes may be: the program's word and the document's are one. Plain law: no program in sight. -/
import Derived.Test.YtlemcljcmfphcaaPu
import Derived.Test.YtlemcljcmfphcaaB1
import Derived.Test.YtlemcljcmfphcaaA23
set_option linter.unusedVariables false
set_option linter.unusedSimpArgs false
namespace Go.Proofs.Ytlemcljcmfphcaa.Abs
open Go

theorem u32_nat {x : Int} (h : InK .u32 x) : ∃ a : Nat, x = (a : Int) ∧ a < 4294967296 := by
  obtain ⟨h1, h2⟩ := h
  have e1 : IntKind.u32.min = 0 := by decide
  have e2 : IntKind.u32.max = 4294967295 := by decide
  rw [e1] at h1; rw [e2] at h2
  exact ⟨x.toNat, by omega, by omega⟩

theorem addrMay_iff {p : TPrefix} (h : InK .u32 p.A) : F31_addr_May p = true ↔ ∃ a n : Nat, p.A = a ∧ p.N = n ∧ a < 4294967296 ∧ n ≤ 32 ∧ a % 2 ^ (32 - n) = 0 := by
  obtain ⟨a, ha, hlt⟩ := u32_nat h
  unfold F31_addr_May F52_addr_isLong F53_addr_Mask
  simp only [Bool.and_eq_true, decide_eq_true_eq]
  constructor
  · rintro ⟨⟨h1, h2⟩, h3⟩
    obtain ⟨n, hn⟩ := Int.eq_ofNat_of_zero_le h1
    have hn32 : n ≤ 32 := by omega
    rw [hn, ha, mask_eq hn32, andNot_mask hlt hn32] at h3
    exact ⟨a, n, ha, hn, hlt, hn32, by exact_mod_cast h3⟩
  · rintro ⟨a', n, h1, h2, h3, h4, h5⟩
    have : a' = a := by omega
    subst this
    refine ⟨by omega, ?_⟩
    rw [h2, h1, mask_eq h4, andNot_mask h3 h4, h5]
    rfl

theorem bit60 {a i : Nat} (ha : a < 4294967296) (hi : i < 32) : F60_crossroadsref03_Bit (a : Int) (i : Int) = if a.testBit (31 - i) then 1 else 0 := by
  unfold F60_crossroadsref03_Bit
  have h1 : ¬ ((i : Int) < 0) := by omega
  have h2 : ¬ (31 < (i : Int)) := by omega
  simp only [h1, h2, decide_false, cond_false]
  exact bit_eq ha hi

theorem may_l1 {p : TPrefix} {a : Nat} (ha : p.A = a) (hlt : a < 4294967296) : ∀ (fuel i : Nat), i ≤ 32 → 32 - i ≤ fuel → (F37_crossroadsref03_May_l1 p fuel i = .ok () ∧ (∀ j, i ≤ j → j < 32 → a.testBit (31 - j) = false)) ∨ (F37_crossroadsref03_May_l1 p fuel i = .error false ∧ ∃ j, i ≤ j ∧ j < 32 ∧ a.testBit (31 - j) = true)
  | fuel, i, hi, hf => by
    unfold F37_crossroadsref03_May_l1
    by_cases h : i < 32
    · have h' : (i : Int) < 32 := by omega
      match fuel, hf with
      | 0, hf => exact absurd hf (by omega)
      | fuel + 1, hf =>
        simp only [h', decide_true, cond_true]
        rw [ha, bit60 hlt h]
        cases hb : a.testBit (31 - i) with
        | true => right; exact ⟨by simp, i, Nat.le_refl _, h, hb⟩
        | false =>
          have e : IntKind.i64.wrap ((i : Int) + 1) = ((i + 1 : Nat) : Int) := by rw [wi64 (by omega) (by omega)]; omega
          rw [e]
          have ih := may_l1 ha hlt fuel (i + 1) (by omega) (by omega)
          rcases ih with ⟨h1, h2⟩ | ⟨h1, j, h2, h3, h4⟩
          · left
            refine ⟨by simpa using h1, fun j hj hj' => ?_⟩
            rcases Nat.eq_or_lt_of_le hj with rfl | hlt'
            · exact hb
            · exact h2 j hlt' hj'
          · right
            exact ⟨by simpa using h1, j, by omega, h3, h4⟩
    · have h' : ¬ ((i : Int) < 32) := by omega
      simp only [h', decide_false, cond_false]
      left
      exact ⟨trivial, fun j hj hj' => by omega⟩

theorem fuel_nat {i B : Nat} (hi : i ≤ 4294967296) (hB : B ≤ 4294967296) : fuelUp (i : Int) (B : Int) = B - i := by
  unfold fuelUp
  rw [if_pos (by omega)]
  omega

theorem refMay_iff {p : TPrefix} (h : InK .u32 p.A) : F37_crossroadsref03_May p = true ↔ ∃ a n : Nat, p.A = a ∧ p.N = n ∧ a < 4294967296 ∧ n ≤ 32 ∧ a % 2 ^ (32 - n) = 0 := by
  obtain ⟨a, ha, hlt⟩ := u32_nat h
  unfold F37_crossroadsref03_May
  by_cases h1 : p.N < 0
  · simp only [h1, decide_true, cond_true]
    simp only [Bool.false_eq_true, false_iff]
    rintro ⟨_, n, _, h2, _⟩
    omega
  · by_cases h2 : 32 < p.N
    · simp only [h1, h2, decide_true, decide_false, cond_true, cond_false]
      simp only [Bool.false_eq_true, false_iff]
      rintro ⟨_, n, _, h2, _, h3, _⟩
      omega
    · simp only [h1, h2, decide_false, cond_false]
      obtain ⟨n, hn⟩ := Int.eq_ofNat_of_zero_le (show 0 ≤ p.N by omega)
      have hn32 : n ≤ 32 := by omega
      have hz : (∀ j, n ≤ j → j < 32 → a.testBit (31 - j) = false) ↔ a % 2 ^ (32 - n) = 0 := by
        rw [low_zero]
        constructor
        · intro h j hj
          have := h (31 - j) (by omega) (by omega)
          rwa [show 31 - (31 - j) = j by omega] at this
        · intro h j hj hj'
          exact h _ (by omega)
      have hf : fuelUp p.N 32 = 32 - n := by rw [hn]; exact fuel_nat (B := 32) (by omega) (by decide)
      rw [hf, hn]
      rcases may_l1 ha hlt (32 - n) n hn32 (Nat.le_refl _) with ⟨k1, k2⟩ | ⟨k1, j, k2, k3, k4⟩
      · rw [k1]
        simp only [true_iff]
        exact ⟨a, n, ha, rfl, hlt, hn32, hz.1 k2⟩
      · rw [k1]
        simp only [Bool.false_eq_true, false_iff]
        rintro ⟨a', n', g1, g2, g3, g4, g5⟩
        have e1 : a' = a := by omega
        have e2 : n' = n := by omega
        subst e1 e2
        have := hz.2 g5 j k2 k3
        rw [k4] at this
        cases this

theorem may_same {p : TPrefix} (h : InK .u32 p.A) : F31_addr_May p = F37_crossroadsref03_May p := by
  rw [Bool.eq_iff_iff, addrMay_iff h, refMay_iff h]


/-! ### Of any numbers, whatever their range -/
theorem ofInt_mod (a : Int) : BitVec.ofInt 32 a = BitVec.ofInt 32 (a % 4294967296) := by
  apply BitVec.eq_of_toNat_eq
  simp only [BitVec.toNat_ofInt]
  omega

theorem andNot_mod (a b : Int) : bit_andNot .u32 a b = bit_andNot .u32 (a % 4294967296) b := by
  show IntKind.u32.wrap ((BitVec.ofInt 32 a &&& ~~~BitVec.ofInt 32 b).toNat : Int) = IntKind.u32.wrap ((BitVec.ofInt 32 (a % 4294967296) &&& ~~~BitVec.ofInt 32 b).toNat : Int)
  rw [← ofInt_mod a]
theorem may31_mod (p : TPrefix) : F31_addr_May p = F31_addr_May ⟨p.A % 4294967296, p.N⟩ := by
  unfold F31_addr_May
  simp only [andNot_mod p.A]

theorem and_one (x : Int) : (BitVec.ofInt 32 x &&& BitVec.ofInt 32 1).toNat = (x % 2).toNat := by
  rw [BitVec.toNat_and]
  have : (BitVec.ofInt 32 1).toNat = 1 := by decide
  rw [this, Nat.and_one_is_mod, BitVec.toNat_ofInt]
  omega

theorem bit60_mod (a i : Int) : F60_crossroadsref03_Bit a i = F60_crossroadsref03_Bit (a % 4294967296) i := by
  unfold F60_crossroadsref03_Bit
  by_cases h1 : i < 0
  · simp [h1]
  · by_cases h2 : 31 < i
    · simp [h1, h2]
    · simp only [h1, h2, decide_false, cond_false]
      have e : IntKind.u64.wrap (IntKind.i64.wrap (31 - i)) = 31 - i := by rw [wi64 (by omega) (by omega), wu64 (by omega) (by omega)]
      rw [e]
      obtain ⟨k, hk⟩ := Int.eq_ofNat_of_zero_le (show 0 ≤ 31 - i by omega)
      have hk' : k ≤ 31 := by omega
      rw [hk]
      simp only [bit_and, shr_, Int.toNat_natCast]
      rw [show IntKind.u32.bits = 32 from rfl, show min k 32 = k by omega, and_one, and_one]
      congr 2
      have h2k : (0 : Int) ≤ 2 ^ k := by exact_mod_cast Nat.zero_le (2 ^ k)
      rw [Int.fdiv_eq_ediv_of_nonneg _ h2k, Int.fdiv_eq_ediv_of_nonneg _ h2k]
      have : k = 0 ∨ k = 1 ∨ k = 2 ∨ k = 3 ∨ k = 4 ∨ k = 5 ∨ k = 6 ∨ k = 7 ∨ k = 8 ∨ k = 9 ∨ k = 10 ∨ k = 11 ∨ k = 12 ∨ k = 13 ∨ k = 14 ∨ k = 15 ∨ k = 16 ∨ k = 17 ∨ k = 18 ∨ k = 19 ∨ k = 20 ∨ k = 21 ∨ k = 22 ∨ k = 23 ∨ k = 24 ∨ k = 25 ∨ k = 26 ∨ k = 27 ∨ k = 28 ∨ k = 29 ∨ k = 30 ∨ k = 31 := by omega
      clear hk e h1 h2 h2k
      (repeat' rcases this with rfl | this) <;> first
        | (simp only [Int.reducePow]; omega)
        | (subst this; simp only [Int.reducePow]; omega)

theorem may37_l1_mod (p : TPrefix) : ∀ (f : Nat) (i : Int), F37_crossroadsref03_May_l1 p f i = F37_crossroadsref03_May_l1 ⟨p.A % 4294967296, p.N⟩ f i
  | 0, i => by unfold F37_crossroadsref03_May_l1; rfl
  | f + 1, i => by
    unfold F37_crossroadsref03_May_l1
    simp only [may37_l1_mod p f, bit60_mod p.A i]

theorem may37_mod (p : TPrefix) : F37_crossroadsref03_May p = F37_crossroadsref03_May ⟨p.A % 4294967296, p.N⟩ := by
  unfold F37_crossroadsref03_May
  simp only [may37_l1_mod p]

theorem may_all (p : TPrefix) : F31_addr_May p = F37_crossroadsref03_May p := by
  rw [may31_mod, may37_mod]
  refine may_same ⟨?_, ?_⟩
  · rw [show IntKind.u32.min = 0 by decide]
    show 0 ≤ p.A % 4294967296
    omega
  · rw [show IntKind.u32.max = 4294967295 by decide]
    show p.A % 4294967296 ≤ 4294967295
    omega
end Go.Proofs.Ytlemcljcmfphcaa.Abs
