/- Prefixes, their texts, rules, lists of rules and rules as texts: the program and the document are one. Plain law: no program in sight. -/
import Derived.Test.YtjcpkgnlnmajjaaGreatDoorPu
import Derived.Test.YtjcpkgnlnmajjaaGreatDoorA23
import Derived.Test.YtjcpkgnlnmajjaaGreatDoorB1
import Derived.KernelRfl
import Derived.Laws.Strings
import Derived.Laws.RangeString
import Derived.Laws.RangeAny
import Derived.Lib.CutLaws
import Derived.Lib.SplitLaws
import Derived.Lib.IndexBytes
import Derived.Test.YtjcpkgnlnmajjaaGreatDoorTy
set_option linter.unusedVariables false
set_option linter.unusedSimpArgs false
set_option maxRecDepth 100000
namespace Go.Proofs.YtjcpkgnlnmajjaaGreatDoor.Abs
open Go

theorem u32_nat {x : Int} (h : InK .u32 x) : ∃ a : Nat, x = (a : Int) ∧ a < 4294967296 := by
  obtain ⟨h1, h2⟩ := h
  have e1 : IntKind.u32.min = 0 := by decide
  have e2 : IntKind.u32.max = 4294967295 := by decide
  rw [e1] at h1; rw [e2] at h2
  exact ⟨x.toNat, by omega, by omega⟩

theorem addrMay_iff {p : TPrefix} (h : InK .u32 p.A) : F37_addr_May p = true ↔ ∃ a n : Nat, p.A = a ∧ p.N = n ∧ a < 4294967296 ∧ n ≤ 32 ∧ a % 2 ^ (32 - n) = 0 := by
  obtain ⟨a, ha, hlt⟩ := u32_nat h
  unfold F37_addr_May F67_addr_isLong F68_addr_Mask
  simp only [Bool.and_eq_true, decide_eq_true_eq]
  constructor
  · rintro ⟨⟨h1, h2⟩, h3⟩
    obtain ⟨n, hn⟩ := Int.eq_ofNat_of_zero_le h1
    have hn32 : n ≤ 32 := by omega
    rw [hn, ha, mask_eq hn32, andNot_mask hlt hn32] at h3
    exact ⟨a, n, ha, hn, hlt, hn32, by exact_mod_cast h3⟩
  · rintro ⟨a', n, h1, h2, h3, h4, h5⟩
    have : a' = a := by omega
    subst this
    refine ⟨by omega, ?_⟩
    rw [h2, h1, mask_eq h4, andNot_mask h3 h4, h5]
    rfl

theorem bit60 {a i : Nat} (ha : a < 4294967296) (hi : i < 32) : F69_crossroadsref03_Bit (a : Int) (i : Int) = if a.testBit (31 - i) then 1 else 0 := by
  unfold F69_crossroadsref03_Bit
  have h1 : ¬ ((i : Int) < 0) := by omega
  have h2 : ¬ (31 < (i : Int)) := by omega
  simp only [h1, h2, decide_false, cond_false]
  exact bit_eq ha hi

theorem may_l1 {p : TPrefix} {a : Nat} (ha : p.A = a) (hlt : a < 4294967296) : ∀ (fuel i : Nat), i ≤ 32 → 32 - i ≤ fuel → (F38_crossroadsref03_May_l1 p fuel i = .ok () ∧ (∀ j, i ≤ j → j < 32 → a.testBit (31 - j) = false)) ∨ (F38_crossroadsref03_May_l1 p fuel i = .error false ∧ ∃ j, i ≤ j ∧ j < 32 ∧ a.testBit (31 - j) = true)
  | fuel, i, hi, hf => by
    unfold F38_crossroadsref03_May_l1
    by_cases h : i < 32
    · have h' : (i : Int) < 32 := by omega
      match fuel, hf with
      | 0, hf => exact absurd hf (by omega)
      | fuel + 1, hf =>
        simp only [h', decide_true, cond_true]
        rw [ha, bit60 hlt h]
        cases hb : a.testBit (31 - i) with
        | true => right; exact ⟨by simp, i, Nat.le_refl _, h, hb⟩
        | false =>
          have e : IntKind.i64.wrap ((i : Int) + 1) = ((i + 1 : Nat) : Int) := by rw [wi64 (by omega) (by omega)]; omega
          rw [e]
          have ih := may_l1 ha hlt fuel (i + 1) (by omega) (by omega)
          rcases ih with ⟨h1, h2⟩ | ⟨h1, j, h2, h3, h4⟩
          · left
            refine ⟨by simpa using h1, fun j hj hj' => ?_⟩
            rcases Nat.eq_or_lt_of_le hj with rfl | hlt'
            · exact hb
            · exact h2 j hlt' hj'
          · right
            exact ⟨by simpa using h1, j, by omega, h3, h4⟩
    · have h' : ¬ ((i : Int) < 32) := by omega
      simp only [h', decide_false, cond_false]
      left
      exact ⟨trivial, fun j hj hj' => by omega⟩

theorem fuel_nat {i B : Nat} (hi : i ≤ 4294967296) (hB : B ≤ 4294967296) : fuelUp (i : Int) (B : Int) = B - i := by
  unfold fuelUp
  rw [if_pos (by omega)]
  omega

theorem refMay_iff {p : TPrefix} (h : InK .u32 p.A) : F38_crossroadsref03_May p = true ↔ ∃ a n : Nat, p.A = a ∧ p.N = n ∧ a < 4294967296 ∧ n ≤ 32 ∧ a % 2 ^ (32 - n) = 0 := by
  obtain ⟨a, ha, hlt⟩ := u32_nat h
  unfold F38_crossroadsref03_May
  by_cases h1 : p.N < 0
  · simp only [h1, decide_true, cond_true]
    simp only [Bool.false_eq_true, false_iff]
    rintro ⟨_, n, _, h2, _⟩
    omega
  · by_cases h2 : 32 < p.N
    · simp only [h1, h2, decide_true, decide_false, cond_true, cond_false]
      simp only [Bool.false_eq_true, false_iff]
      rintro ⟨_, n, _, h2, _, h3, _⟩
      omega
    · simp only [h1, h2, decide_false, cond_false]
      obtain ⟨n, hn⟩ := Int.eq_ofNat_of_zero_le (show 0 ≤ p.N by omega)
      have hn32 : n ≤ 32 := by omega
      have hz : (∀ j, n ≤ j → j < 32 → a.testBit (31 - j) = false) ↔ a % 2 ^ (32 - n) = 0 := by
        rw [low_zero]
        constructor
        · intro h j hj
          have := h (31 - j) (by omega) (by omega)
          rwa [show 31 - (31 - j) = j by omega] at this
        · intro h j hj hj'
          exact h _ (by omega)
      have hf : fuelUp p.N 32 = 32 - n := by rw [hn]; exact fuel_nat (B := 32) (by omega) (by decide)
      rw [hf, hn]
      rcases may_l1 ha hlt (32 - n) n hn32 (Nat.le_refl _) with ⟨k1, k2⟩ | ⟨k1, j, k2, k3, k4⟩
      · rw [k1]
        simp only [true_iff]
        exact ⟨a, n, ha, rfl, hlt, hn32, hz.1 k2⟩
      · rw [k1]
        simp only [Bool.false_eq_true, false_iff]
        rintro ⟨a', n', g1, g2, g3, g4, g5⟩
        have e1 : a' = a := by omega
        have e2 : n' = n := by omega
        subst e1 e2
        have := hz.2 g5 j k2 k3
        rw [k4] at this
        cases this

theorem may_same {p : TPrefix} (h : InK .u32 p.A) : F37_addr_May p = F38_crossroadsref03_May p := by
  rw [Bool.eq_iff_iff, addrMay_iff h, refMay_iff h]

theorem has_l1 {p : TPrefix} {a b n : Nat} (hp : p.A = a) (hn : p.N = n) (hn32 : n ≤ 32) (ha : a < 4294967296) (hb : b < 4294967296) : ∀ (fuel i : Nat), i ≤ n → n - i ≤ fuel →
    (F71_crossroadsref03_Has_l1 p b fuel i = .ok () ∧ (∀ j, i ≤ j → j < n → a.testBit (31 - j) = b.testBit (31 - j))) ∨ (F71_crossroadsref03_Has_l1 p b fuel i = .error false ∧ ∃ j, i ≤ j ∧ j < n ∧ a.testBit (31 - j) ≠ b.testBit (31 - j))
  | fuel, i, hi, hf => by
    unfold F71_crossroadsref03_Has_l1
    by_cases h : i < n
    · have h' : (i : Int) < p.N := by omega
      match fuel, hf with
      | 0, hf => exact absurd hf (by omega)
      | fuel + 1, hf =>
        simp only [h', decide_true, cond_true]
        rw [hp, bit60 ha (by omega), bit60 hb (by omega)]
        by_cases hbit : a.testBit (31 - i) = b.testBit (31 - i)
        · rw [hbit]
          have e : IntKind.i64.wrap ((i : Int) + 1) = ((i + 1 : Nat) : Int) := by rw [wi64 (by omega) (by omega)]; omega
          rw [e]
          have ih := has_l1 hp hn hn32 ha hb fuel (i + 1) (by omega) (by omega)
          rcases ih with ⟨h1, h2⟩ | ⟨h1, j, h2, h3, h4⟩
          · left
            refine ⟨by simpa using h1, fun j hj hj' => ?_⟩
            rcases Nat.eq_or_lt_of_le hj with rfl | hlt'
            · exact hbit
            · exact h2 j hlt' hj'
          · right
            exact ⟨by simpa using h1, j, by omega, h3, h4⟩
        · right
          refine ⟨?_, i, Nat.le_refl _, h, hbit⟩
          cases h1 : a.testBit (31 - i) <;> cases h2 : b.testBit (31 - i) <;> simp_all
    · have h' : ¬ ((i : Int) < p.N) := by omega
      simp only [h', decide_false, cond_false]
      left
      exact ⟨trivial, fun j hj hj' => by omega⟩

/-- Has, of prefixes that may be. -/
theorem has_same {p : TPrefix} {x : Int} (h : InK .u32 p.A) (hx : InK .u32 x) : F70_addr_Has p x = F71_crossroadsref03_Has p x := by
  unfold F70_addr_Has F71_crossroadsref03_Has
  rw [may_same h]
  cases hm : F38_crossroadsref03_May p with
  | false => rfl
  | true =>
    obtain ⟨a, n, h1, h2, h3, h4, h5⟩ := (refMay_iff h).1 hm
    obtain ⟨b, rfl, hb⟩ := u32_nat hx
    simp only [Bool.true_and]
    unfold F68_addr_Mask
    have hf : fuelUp 0 p.N = n := by rw [h2]; exact fuel_nat (i := 0) (by omega) (by omega)
    rw [hf, h2, mask_eq h4, and_mask hb h4]
    have key : (b / 2 ^ (32 - n) * 2 ^ (32 - n) = a) ↔ ∀ j, 0 ≤ j → j < n → a.testBit (31 - j) = b.testBit (31 - j) := by
      have e : a / 2 ^ (32 - n) * 2 ^ (32 - n) = a := Nat.div_mul_cancel (Nat.dvd_of_mod_eq_zero h5)
      have e2 : (b / 2 ^ (32 - n) * 2 ^ (32 - n) = a) ↔ a / 2 ^ (32 - n) = b / 2 ^ (32 - n) := by
        constructor
        · intro g
          rw [← g, Nat.mul_div_cancel _ (Nat.two_pow_pos _)]
        · intro g
          rw [← g, e]
      rw [e2, high_same h3 hb]
      constructor
      · intro g j _ hj
        exact g _ (by omega) (by omega)
      · intro g j hj hj'
        have := g (31 - j) (Nat.zero_le _) (by omega)
        rwa [show 31 - (31 - j) = j by omega] at this
    rcases has_l1 h1 h2 h4 h3 hb n 0 (Nat.zero_le _) (Nat.le_refl _) with ⟨k1, k2⟩ | ⟨k1, j, k2, k3, k4⟩
    · have k1' : F71_crossroadsref03_Has_l1 p b n 0 = .ok () := k1
      rw [k1']
      have := key.2 k2
      rw [this, h1]
      simp
    · have k1' : F71_crossroadsref03_Has_l1 p b n 0 = .error false := k1
      rw [k1', h1]
      simp only [decide_eq_false_iff_not]
      intro g
      have g' : b / 2 ^ (32 - n) * 2 ^ (32 - n) = a := by exact_mod_cast g
      exact k4 (key.1 g' j k2 k3)

theorem covers_same {p q : TPrefix} (h : InK .u32 p.A) (hq : InK .u32 q.A) : F40_addr_Covers p q = F42_crossroadsref03_Covers p q := by
  unfold F40_addr_Covers F42_crossroadsref03_Covers
  rw [may_same hq, has_same h hq]
  unfold F71_crossroadsref03_Has
  cases F38_crossroadsref03_May p <;> cases F38_crossroadsref03_May q <;> simp

/-- A prefix that may be: its numbers. -/
structure PV (p : TPrefix) (a n : Nat) : Prop where
  hA : p.A = a
  hN : p.N = n
  lt : a < 4294967296
  le : n ≤ 32
  al : a % 2 ^ (32 - n) = 0

def V (p : TPrefix) : Prop := ∃ a n, PV p a n

theorem may_V {p : TPrefix} (h : InK .u32 p.A) : F37_addr_May p = true ↔ V p := by
  rw [addrMay_iff h]
  constructor
  · rintro ⟨a, n, h1, h2, h3, h4, h5⟩; exact ⟨a, n, h1, h2, h3, h4, h5⟩
  · rintro ⟨a, n, h1, h2, h3, h4, h5⟩; exact ⟨a, n, h1, h2, h3, h4, h5⟩

theorem inK32 {a : Nat} (h : a < 4294967296) : InK .u32 (a : Int) := by
  have e1 : IntKind.u32.min = 0 := by decide
  have e2 : IntKind.u32.max = 4294967295 := by decide
  unfold InK; rw [e1, e2]; omega

theorem V.inK {p : TPrefix} (h : V p) : InK .u32 p.A := by
  obtain ⟨a, n, h⟩ := h
  rw [h.hA]; exact inK32 h.lt

/-- One covers another. -/
def C (p q : TPrefix) : Prop := ∃ a n b m, PV p a n ∧ PV q b m ∧ n ≤ m ∧ b / 2 ^ (32 - n) = a / 2 ^ (32 - n)

theorem C.left {p q : TPrefix} (h : C p q) : V p := by obtain ⟨a, n, b, m, h1, _⟩ := h; exact ⟨a, n, h1⟩
theorem C.right {p q : TPrefix} (h : C p q) : V q := by obtain ⟨a, n, b, m, _, h1, _⟩ := h; exact ⟨b, m, h1⟩

theorem PV.same {p : TPrefix} {a b n m : Nat} (h : PV p a n) (k : PV p b m) : a = b ∧ n = m := by
  have := h.hA; have := k.hA; have := h.hN; have := k.hN
  omega

theorem align {a k : Nat} (h : a % 2 ^ k = 0) : a / 2 ^ k * 2 ^ k = a := Nat.div_mul_cancel (Nat.dvd_of_mod_eq_zero h)

theorem has_C {p : TPrefix} {b : Nat} (hb : b < 4294967296) (h : InK .u32 p.A) : F70_addr_Has p b = true ↔ ∃ a n, PV p a n ∧ b / 2 ^ (32 - n) = a / 2 ^ (32 - n) := by
  unfold F70_addr_Has
  simp only [Bool.and_eq_true, decide_eq_true_eq]
  rw [may_V h]
  constructor
  · rintro ⟨⟨a, n, hp⟩, h2⟩
    refine ⟨a, n, hp, ?_⟩
    unfold F68_addr_Mask at h2
    rw [hp.hN, mask_eq hp.le, and_mask hb hp.le, hp.hA] at h2
    have h3 : b / 2 ^ (32 - n) * 2 ^ (32 - n) = a := by exact_mod_cast h2
    rw [← h3, Nat.mul_div_cancel _ (Nat.two_pow_pos _)]
  · rintro ⟨a, n, hp, h2⟩
    refine ⟨⟨a, n, hp⟩, ?_⟩
    unfold F68_addr_Mask
    rw [hp.hN, mask_eq hp.le, and_mask hb hp.le, hp.hA, h2, align hp.al]

theorem covers_C {p q : TPrefix} (hp : InK .u32 p.A) (hq : InK .u32 q.A) : F40_addr_Covers p q = true ↔ C p q := by
  unfold F40_addr_Covers
  simp only [Bool.and_eq_true, decide_eq_true_eq]
  rw [may_V hq]
  constructor
  · rintro ⟨⟨b, m, hq'⟩, h2, h3⟩
    rw [hq'.hA] at h3
    obtain ⟨a, n, hp', h4⟩ := (has_C hq'.lt hp).1 h3
    refine ⟨a, n, b, m, hp', hq', ?_, h4⟩
    have := hp'.hN; have := hq'.hN; omega
  · rintro ⟨a, n, b, m, hp', hq', h2, h3⟩
    refine ⟨⟨b, m, hq'⟩, ?_, ?_⟩
    · have := hp'.hN; have := hq'.hN; omega
    · rw [hq'.hA]; exact (has_C hq'.lt hp).2 ⟨a, n, hp', h3⟩

/-- The same from k on, so from any later on. -/
theorem div_more {a b k l : Nat} (h : a / 2 ^ k = b / 2 ^ k) (hl : k ≤ l) : a / 2 ^ l = b / 2 ^ l := by
  obtain ⟨d, rfl⟩ := Nat.exists_eq_add_of_le hl
  rw [Nat.pow_add, ← Nat.div_div_eq_div_mul, ← Nat.div_div_eq_div_mul, h]
theorem div_half {a k : Nat} : a / 2 ^ (k + 1) = a / 2 ^ k / 2 := by
  rw [Nat.pow_succ, Nat.div_div_eq_div_mul]
theorem div_lt_lt {a b k : Nat} (h : a / 2 ^ k < b / 2 ^ k) : a < b := by
  apply Nat.lt_of_not_le
  intro hl
  exact absurd (Nat.div_le_div_right (c := 2 ^ k) hl) (by omega)

theorem C.refl {p : TPrefix} (h : V p) : C p p := by
  obtain ⟨a, n, h⟩ := h
  exact ⟨a, n, a, n, h, h, Nat.le_refl _, rfl⟩
theorem C.le {p q : TPrefix} (h : C p q) : p.N ≤ q.N := by
  obtain ⟨a, n, b, m, h1, h2, h3, _⟩ := h
  rw [h1.hN, h2.hN]; omega
theorem C.trans {p q r : TPrefix} (h : C p q) (k : C q r) : C p r := by
  obtain ⟨a, n, b, m, h1, h2, h3, h4⟩ := h
  obtain ⟨b', m', c, l, k1, k2, k3, k4⟩ := k
  obtain ⟨rfl, rfl⟩ := h2.same k1
  exact ⟨a, n, c, l, h1, k2, by omega, (div_more k4 (by omega)).trans h4⟩
theorem C.anti {p q : TPrefix} (h : C p q) (e : p.N = q.N) : p = q := by
  obtain ⟨a, n, b, m, h1, h2, h3, h4⟩ := h
  have e2 : n = m := by have := h1.hN; have := h2.hN; omega
  subst e2
  have := align h1.al; have e3 := align h2.al
  rw [h4, this] at e3
  have hA := h1.hA; have hA' := h2.hA
  cases p; cases q
  simp only at *
  subst e3; simp [hA, hA', e]
theorem C.lt {p q : TPrefix} (h : C p q) (e : p ≠ q) : p.N < q.N := by
  have := h.le
  by_cases h1 : p.N = q.N
  · exact absurd (h.anti h1) e
  · omega
/-- Two that cover a third: one covers the other. -/
theorem C.comp {p q r : TPrefix} (h : C p r) (k : C q r) (e : p.N ≤ q.N) : C p q := by
  obtain ⟨a, n, b, m, h1, h2, h3, h4⟩ := h
  obtain ⟨c, l, b', m', k1, k2, k3, k4⟩ := k
  obtain ⟨rfl, rfl⟩ := h2.same k2
  have hl : n ≤ l := by have := h1.hN; have := k1.hN; omega
  exact ⟨a, n, c, l, h1, k1, hl, (div_more k4.symm (by omega)).trans h4⟩

/-- Stands ahead of. -/
def Ls (p q : TPrefix) : Prop := p.A < q.A ∨ (p.A = q.A ∧ p.N < q.N)
theorem Ls.irr {p : TPrefix} : ¬ Ls p p := by unfold Ls; omega
theorem Ls.trans {p q r : TPrefix} (h : Ls p q) (k : Ls q r) : Ls p r := by unfold Ls at *; omega
theorem Ls.asymm {p q : TPrefix} (h : Ls p q) : ¬ Ls q p := by unfold Ls at *; omega
theorem Ls.ne {p q : TPrefix} (h : Ls p q) : p ≠ q := by rintro rfl; exact Ls.irr h
theorem Ls.tri {p q : TPrefix} (h : p ≠ q) : Ls p q ∨ Ls q p := by
  by_cases h1 : p.A = q.A
  · by_cases h2 : p.N = q.N
    · cases p; cases q; simp_all
    · unfold Ls; omega
  · unfold Ls; omega

theorem C.ls {p q : TPrefix} (h : C p q) (e : p ≠ q) : Ls p q := by
  have hn := h.lt e
  obtain ⟨a, n, b, m, h1, h2, h3, h4⟩ := h
  have : a ≤ b := by
    have e1 := align h1.al
    rw [← h4] at e1
    have := Nat.div_mul_le_self b (2 ^ (32 - n))
    omega
  have := h1.hA; have := h2.hA
  unfold Ls
  omega

theorem V.le {p : TPrefix} (h : V p) : 0 ≤ p.N ∧ p.N ≤ 32 := by
  obtain ⟨a, n, h⟩ := h
  have := h.hN; have := h.le; omega

def tabS : List Nat := [0, 1, 2, 2, 3, 3, 3, 3, 4, 4, 4, 4, 4, 4, 4, 4, 5, 5, 5, 5, 5, 5, 5, 5, 5, 5, 5, 5, 5, 5, 5, 5, 6, 6, 6, 6, 6, 6, 6, 6, 6, 6, 6, 6, 6, 6, 6, 6, 6, 6, 6, 6, 6, 6, 6, 6, 6, 6, 6, 6, 6, 6, 6, 6, 7, 7, 7, 7, 7, 7, 7, 7, 7, 7, 7, 7, 7, 7, 7, 7, 7, 7, 7, 7, 7, 7, 7, 7, 7, 7, 7, 7, 7, 7, 7, 7, 7, 7, 7, 7, 7, 7, 7, 7, 7, 7, 7, 7, 7, 7, 7, 7, 7, 7, 7, 7, 7, 7, 7, 7, 7, 7, 7, 7, 7, 7, 7, 7, 8, 8, 8, 8, 8, 8, 8, 8, 8, 8, 8, 8, 8, 8, 8, 8, 8, 8, 8, 8, 8, 8, 8, 8, 8, 8, 8, 8, 8, 8, 8, 8, 8, 8, 8, 8, 8, 8, 8, 8, 8, 8, 8, 8, 8, 8, 8, 8, 8, 8, 8, 8, 8, 8, 8, 8, 8, 8, 8, 8, 8, 8, 8, 8, 8, 8, 8, 8, 8, 8, 8, 8, 8, 8, 8, 8, 8, 8, 8, 8, 8, 8, 8, 8, 8, 8, 8, 8, 8, 8, 8, 8, 8, 8, 8, 8, 8, 8, 8, 8, 8, 8, 8, 8, 8, 8, 8, 8, 8, 8, 8, 8, 8, 8, 8, 8, 8, 8, 8, 8, 8, 8, 8, 8, 8, 8, 8, 8]

/-- How many bits a byte has. -/
theorem tabS_all : ∀ b : Fin 256, strAt (bstr tabS) ((b.val : Nat) : Int) ≤ 8 ∧ 0 ≤ strAt (bstr tabS) ((b.val : Nat) : Int) ∧ b.val / 2 ^ (strAt (bstr tabS) ((b.val : Nat) : Int)).toNat = 0 ∧ (b.val ≠ 0 → 0 < strAt (bstr tabS) ((b.val : Nat) : Int) ∧ b.val / 2 ^ ((strAt (bstr tabS) ((b.val : Nat) : Int)).toNat - 1) = 1) := by decide +kernel

theorem tabS_spec {b : Nat} (h : b < 256) : ∃ k : Nat, strAt (bstr tabS) (IntKind.u8.wrap (b : Int)) = k ∧ k ≤ 8 ∧ b / 2 ^ k = 0 ∧ (b ≠ 0 → 0 < k ∧ b / 2 ^ (k - 1) = 1) := by
  have e : IntKind.u8.wrap (b : Int) = b := by
    have h3 : (2 : Int) ^ IntKind.u8.bits = 256 := by decide
    have h5 : IntKind.u8.signed = false := rfl
    simp only [IntKind.wrap, h3, h5, Bool.false_and, Bool.false_eq_true, if_false]
    omega
  rw [e]
  obtain ⟨h1, h2, h3, h4⟩ := tabS_all ⟨b, h⟩
  simp only at h1 h2 h3 h4
  refine ⟨(strAt (bstr tabS) (b : Int)).toNat, by omega, by omega, h3, fun hb => ?_⟩
  obtain ⟨h5, h6⟩ := h4 hb
  exact ⟨by omega, h6⟩

theorem fdiv_nat (a k : Nat) : Int.fdiv (a : Int) (2 ^ k) = ((a / 2 ^ k : Nat) : Int) := by
  have e : (2 : Int) ^ k = ((2 ^ k : Nat) : Int) := by push_cast; rfl
  rw [e, Int.fdiv_eq_ediv_of_nonneg _ (Int.natCast_nonneg _)]
  rfl

set_option maxRecDepth 100000 in
theorem len_key {x : Nat} (s : Nat) (z : Int) (hz : z = s) (y : Nat) (hy : y = x / 2 ^ s) (hlt : y < 256) (hs : s ≤ 24) (hne : x ≠ 0 → y ≠ 0) : ∃ k : Nat, IntKind.i64.wrap (z + IntKind.i64.wrap (strAt (bstr tabS) (IntKind.u8.wrap (y : Int)))) = k ∧ k ≤ 32 ∧ x / 2 ^ k = 0 ∧ (x ≠ 0 → 0 < k ∧ x / 2 ^ (k - 1) = 1) := by
  obtain ⟨k, e, h1, h2, h3⟩ := tabS_spec hlt
  rw [e, hz, wi64 (x := (k : Int)) (by omega) (by omega), wi64 (by omega) (by omega)]
  refine ⟨s + k, by omega, by omega, ?_, fun hx0 => ?_⟩
  · rw [Nat.pow_add, ← Nat.div_div_eq_div_mul, ← hy]; exact h2
  · obtain ⟨g1, g2⟩ := h3 (hne hx0)
    refine ⟨by omega, ?_⟩
    rw [show s + k - 1 = s + (k - 1) by omega, Nat.pow_add, ← Nat.div_div_eq_div_mul, ← hy]; exact g2

theorem xor_div {a b k : Nat} : (a ^^^ b) / 2 ^ k = (a / 2 ^ k) ^^^ (b / 2 ^ k) := by
  apply Nat.eq_of_testBit_eq
  intro i
  simp [Nat.testBit_div_two_pow, Nat.testBit_xor]

theorem xor_u32 {a b : Nat} (ha : a < 4294967296) (hb : b < 4294967296) : bit_xor .u32 (a : Int) (b : Int) = ((a ^^^ b : Nat) : Int) ∧ a ^^^ b < 4294967296 := by
  have h3 : a ^^^ b < 4294967296 := Nat.xor_lt_two_pow (n := 32) ha hb
  refine ⟨?_, h3⟩
  unfold bit_xor
  have h5 : IntKind.u32.signed = false := rfl
  simp only [h5, Bool.false_eq_true, if_false, BitVec.toNat_xor, ofInt32 ha, ofInt32 hb]
  exact wu32 (by omega) (by omega)

theorem xor_zero {a b : Nat} (h : a ^^^ b = 0) : a = b := by
  apply Nat.eq_of_testBit_eq
  intro i
  have := congrArg (fun x => x.testBit i) h
  simpa [Nat.testBit_xor] using this

theorem min3 (x y z : Nat) : min_ (min_ (x : Int) (y : Int)) (z : Int) = ((min (min x y) z : Nat) : Int) := by
  unfold min_
  split <;> split <;> omega


theorem bytes_ext {s t : ByteArray} (h : s.data.toList = t.data.toList) : s = t := by
  rw [← Lib.mk_data s, ← Lib.mk_data t, h]
theorem bytesOf_data (l : List UInt8) : (bytesOf l).data.toList = l := by simp [bytesOf]
theorem bytesOf_size (l : List UInt8) : (bytesOf l).size = l.length := by rw [Lib.size_eq, bytesOf_data]
theorem bytesOf_self (s : ByteArray) : bytesOf s.data.toList = s := Lib.mk_data s
theorem bytesOf_append (a b : List UInt8) : bytesOf a ++ bytesOf b = bytesOf (a ++ b) := by
  apply bytes_ext
  rw [bytesOf_data]
  show (bytesOf a ++ bytesOf b).data.toList = _
  rw [ByteArray.data_append, Array.toList_append, bytesOf_data, bytesOf_data]
theorem bstr_bytes (l : List Nat) : bstr l = bytesOf (l.map UInt8.ofNat) := rfl
theorem strNums_bytes (l : List Int) : strNums l = bytesOf (l.map fun n => UInt8.ofNat n.toNat) := rfl
theorem beq_bytes (s t : ByteArray) : (s.toList == t.toList) = decide (s.data.toList = t.data.toList) := by
  rw [ByteArray.toList_eq, ByteArray.toList_eq]
  rw [Bool.eq_iff_iff]
  simp

theorem strAt_eq {s : ByteArray} {i : Nat} {b : UInt8} (h : s.data.toList[i]? = some b) : strAt s (i : Int) = (b.toNat : Int) := by
  simp only [strAt, Int.toNat_natCast, h, Option.map_some, Option.getD_some]

def dig (b : UInt8) : Prop := 48 ≤ b.toNat ∧ b.toNat ≤ 57
instance (b : UInt8) : Decidable (dig b) := inferInstanceAs (Decidable (_ ∧ _))

theorem isNone_eq (y : Nat) : F91_addr_number_1 (y : Int) = decide (¬ (48 ≤ y ∧ y ≤ 57)) := by
  unfold F91_addr_number_1
  rw [Bool.eq_iff_iff]
  simp
  omega

theorem idx_digits (s : ByteArray) : ∀ (f pos : Nat), s.size - pos ≤ f → (Lib.idxFuncFrom (fun x => F91_addr_number_1 (x : Int)) true s f pos = -1 ↔ ∀ j b, pos ≤ j → s.data.toList[j]? = some b → dig b)
  | 0, pos, h => by
    simp only [Lib.idxFuncFrom, true_iff]
    intro j b hj hb
    have := (List.getElem?_eq_some_iff.1 hb).1
    rw [← Lib.size_eq] at this
    omega
  | f + 1, pos, h => by
    unfold Lib.idxFuncFrom
    by_cases hp : pos < s.size
    · rw [if_pos hp]
      have hp' : pos < s.data.toList.length := by rw [← Lib.size_eq]; exact hp
      have hb : s.data.toList[pos]? = some (s[pos]'hp) := by
        rw [List.getElem?_eq_getElem hp']
        rfl
      by_cases ha : (s[pos]'hp).toNat < 128
      · rw [decode_ascii s pos hp ha]
        by_cases hd : dig (s[pos]'hp)
        · rw [if_neg (show ¬ F91_addr_number_1 (((s[pos]'hp).toNat : Nat) : Int) = true by rw [isNone_eq, decide_eq_true_eq]; exact fun k => k hd)]
          rw [idx_digits s f (pos + 1) (by omega)]
          constructor
          · intro k j b hj hbj
            by_cases e : j = pos
            · subst e
              rw [hb] at hbj
              injection hbj with hbj
              rw [← hbj]; exact hd
            · exact k j b (by omega) hbj
          · exact fun k j b hj hbj => k j b (by omega) hbj
        · rw [if_pos (show F91_addr_number_1 (((s[pos]'hp).toNat : Nat) : Int) = true by rw [isNone_eq, decide_eq_true_eq]; exact hd)]
          constructor
          · intro k; omega
          · intro k; exact absurd (k pos _ (Nat.le_refl _) hb) hd
      · obtain ⟨d1, d2⟩ := decode_high s pos hp (by omega)
        have hd : ¬ dig (s[pos]'hp) := fun hd => by have := hd.2; omega
        rw [if_pos (by rw [isNone_eq]; simp; omega)]
        constructor
        · intro k; omega
        · intro k; exact absurd (k pos _ (Nat.le_refl _) hb) hd
    · rw [if_neg hp]
      simp only [true_iff]
      intro j b hj hb
      have := (List.getElem?_eq_some_iff.1 hb).1
      rw [← Lib.size_eq] at this
      omega

theorem contains_digits (s : ByteArray) : containsFuncS s (fun y0 => F91_addr_number_1 y0) = !decide (∀ b ∈ s.data.toList, dig b) := by
  unfold containsFuncS Lib.idxFunc
  have h := idx_digits s s.size 0 (by omega)
  rw [Bool.eq_iff_iff]
  simp only [decide_eq_true_eq, Bool.not_eq_true', decide_eq_false_iff_not]
  have h2 : (∀ j b, 0 ≤ j → s.data.toList[j]? = some b → dig b) ↔ ∀ b ∈ s.data.toList, dig b :=
    ⟨fun k b hb => by obtain ⟨j, hj⟩ := List.mem_iff_getElem?.1 hb; exact k j b (Nat.zero_le _) hj, fun k j b _ hb => k b (List.mem_of_getElem? hb)⟩
  rw [h2] at h
  have hr := Lib.idxFuncFrom_range (fun x => F91_addr_number_1 (x : Int)) true s s.size 0
  rw [← h]
  omega

/-- What digits say. -/
def valF (acc : Nat) (l : List UInt8) : Nat := l.foldl (fun a b => a * 10 + (b.toNat - 48)) acc
def valL (l : List UInt8) : Nat := valF 0 l

theorem decFrom_val : ∀ (l : List UInt8) (acc : Nat), (∀ b ∈ l, dig b) → Lib.decFrom acc l = some (valF acc l)
  | [], acc, _ => rfl
  | b :: l, acc, h => by
    have hb := h b List.mem_cons_self
    simp only [Lib.decFrom, Lib.digitVal, if_pos (show 48 ≤ b.toNat ∧ b.toNat ≤ 57 from hb)]
    rw [decFrom_val l _ fun x hx => h x (List.mem_cons_of_mem _ hx)]
    rfl

theorem atoi_val {l : List UInt8} (h0 : l ≠ []) (h : ∀ b ∈ l, dig b) : Lib.atoi l = some (valL l : Int) := by
  match l, h0 with
  | b :: r, _ =>
    have hb := h b List.mem_cons_self
    have h1 : (b == 45) = false := by
      apply beq_eq_false_iff_ne.2
      rintro rfl
      have := hb.1
      simp at this
    have h2 : (b == 43) = false := by
      apply beq_eq_false_iff_ne.2
      rintro rfl
      have := hb.1
      simp at this
    unfold Lib.atoi
    simp only [h1, h2, Bool.false_eq_true, if_false]
    unfold Lib.decNat
    rw [decFrom_val _ 0 h]
    rfl

/-- Digits that may be: not too many, and no nought ahead. -/
def NumOk (l : List UInt8) : Prop := l ≠ [] ∧ l.length ≤ 3 ∧ (1 < l.length → l[0]? ≠ some 48) ∧ ∀ b ∈ l, dig b

theorem number_ok {s : ByteArray} {most : Int} (h : NumOk s.data.toList) : F62_addr_number s most = some ((valL s.data.toList : Int), decide ((valL s.data.toList : Int) ≤ most)) := by
  obtain ⟨h0, h1, h2, h3⟩ := h
  have hsz : s.size = s.data.toList.length := Lib.size_eq s
  have hpos : 0 < s.data.toList.length := List.length_pos_iff.2 h0
  have e1 : (s.toList == (bstr []).toList) = false := by
    rw [beq_bytes, bstr_bytes, bytesOf_data]
    simpa using h0
  have e2 : decide (3 < (s.size : Int)) = false := by simp; omega
  have e3 : containsFuncS s (fun y0 => F91_addr_number_1 y0) = false := by rw [contains_digits]; simpa using h3
  have e4 : atoiO s = some ((valL s.data.toList : Int), ()) := by
    unfold atoiO atoiS
    rw [if_pos (by omega), atoi_val h0 h3]
  unfold F62_addr_number
  rw [e1, e2, e3, e4]
  simp only [cond_false]
  by_cases hl : 1 < s.size
  · have e5 : decide (1 < (s.size : Int)) = true := by simp; omega
    have e6 : decide ((0 : Int) < (s.size : Int)) = true := by simp; omega
    obtain ⟨b, hb⟩ : ∃ b, s.data.toList[0]? = some b := ⟨_, List.getElem?_eq_getElem hpos⟩
    have e7 : decide (strAt s 0 = 48) = false := by
      have := strAt_eq (i := 0) hb
      rw [show ((0 : Nat) : Int) = 0 from rfl] at this
      rw [this]
      have hne := h2 (by omega)
      rw [hb] at hne
      simp only [decide_eq_false_iff_not]
      intro hc
      apply hne
      congr 1
      apply UInt8.toNat_inj.1
      have : b.toNat = 48 := by omega
      rw [this]; rfl
    rw [e5, e6, e7]
    simp only [cond_true, cond_false]
  · have e5 : decide (1 < (s.size : Int)) = false := by simp; omega
    rw [e5]
    simp only [cond_false]

theorem number_no {s : ByteArray} {most : Int} (h : ¬ NumOk s.data.toList) : F62_addr_number s most = some (0, false) := by
  have hsz : s.size = s.data.toList.length := Lib.size_eq s
  unfold F62_addr_number
  by_cases h0 : s.data.toList = []
  · have e1 : (s.toList == (bstr []).toList) = true := by
      rw [beq_bytes, bstr_bytes, bytesOf_data]
      simpa using h0
    rw [e1]; rfl
  · have hpos : 0 < s.data.toList.length := List.length_pos_iff.2 h0
    have e1 : (s.toList == (bstr []).toList) = false := by
      rw [beq_bytes, bstr_bytes, bytesOf_data]
      simpa using h0
    rw [e1]
    simp only [cond_false]
    by_cases h1 : s.data.toList.length ≤ 3
    · have e2 : decide (3 < (s.size : Int)) = false := by simp; omega
      rw [e2]
      simp only [cond_false]
      obtain ⟨b, hb⟩ : ∃ b, s.data.toList[0]? = some b := ⟨_, List.getElem?_eq_getElem hpos⟩
      have hat := strAt_eq (i := 0) hb
      rw [show ((0 : Nat) : Int) = 0 from rfl] at hat
      have e6 : decide ((0 : Int) < (s.size : Int)) = true := by simp; omega
      by_cases hl : 1 < s.size
      · have e5 : decide (1 < (s.size : Int)) = true := by simp; omega
        rw [e5, e6]
        simp only [cond_true]
        by_cases hz : b = 48
        · have e7 : decide (strAt s 0 = 48) = true := by rw [hat, hz]; rfl
          rw [e7]; rfl
        · have e7 : decide (strAt s 0 = 48) = false := by
            rw [hat]
            simp only [decide_eq_false_iff_not]
            intro hc
            apply hz
            apply UInt8.toNat_inj.1
            have : b.toNat = 48 := by omega
            rw [this]; rfl
          rw [e7]
          simp only [cond_false]
          have e3 : containsFuncS s (fun y0 => F91_addr_number_1 y0) = true := by
            rw [contains_digits]
            simp only [Bool.not_eq_true', decide_eq_false_iff_not]
            intro hd
            exact h ⟨h0, h1, fun _ => by rw [hb]; simpa using hz, hd⟩
          rw [e3]; rfl
      · have e5 : decide (1 < (s.size : Int)) = false := by simp; omega
        rw [e5]
        simp only [cond_false]
        have e3 : containsFuncS s (fun y0 => F91_addr_number_1 y0) = true := by
          rw [contains_digits]
          simp only [Bool.not_eq_true', decide_eq_false_iff_not]
          intro hd
          exact h ⟨h0, h1, fun k => absurd k (by omega), hd⟩
        rw [e3]; rfl
    · have e2 : decide (3 < (s.size : Int)) = true := by simp; omega
      rw [e2]; rfl

/-- The digits of a number. -/
def digs (u : Nat) : List UInt8 := Lib.decDigits u
/-- A number as it is written. -/
def wr (n : Int) : List UInt8 := Lib.itoa n

theorem digs_small {u : Nat} (h : u < 10) : digs u = [UInt8.ofNat (48 + u)] := by unfold digs; rw [Lib.decDigits, dif_pos h]
theorem digs_big {u : Nat} (h : ¬ u < 10) : digs u = digs (u / 10) ++ [UInt8.ofNat (48 + u % 10)] := by
  unfold digs
  rw [Lib.decDigits, dif_neg h]

theorem digs_length : ∀ (f u : Nat), u < 10 ^ (f + 1) → (digs u).length ≤ f + 1
  | 0, u, h => by rw [digs_small (by simpa using h)]; simp
  | f + 1, u, h => by
    by_cases hu : u < 10
    · rw [digs_small hu]; simp
    · rw [digs_big hu, List.length_append]
      have := digs_length f (u / 10) (by rw [Nat.pow_succ] at h; omega)
      simp only [List.length_singleton]
      omega

theorem itoaO_eq {n : Int} (h : InK .i64 n) : itoaO n = some (bytesOf (wr n)) := by
  obtain ⟨h0, h1⟩ := h
  have e0 : IntKind.i64.min = -9223372036854775808 := by decide
  have e1 : IntKind.i64.max = 9223372036854775807 := by decide
  rw [e0] at h0
  rw [e1] at h1
  unfold itoaO
  rw [if_pos ⟨h0, h1⟩, itoaS_eq h0 h1]
  rfl

theorem wu64x {x : Int} (h1 : 0 ≤ x) (h2 : x < 18446744073709551616) : IntKind.u64.wrap x = x := by
  have h3 : (2 : Int) ^ IntKind.u64.bits = 18446744073709551616 := by decide
  have h5 : IntKind.u64.signed = false := rfl
  simp only [IntKind.wrap, h3, h5, Bool.false_and, Bool.false_eq_true, if_false]
  omega
theorem wu8x {x : Int} (h1 : 0 ≤ x) (h2 : x < 256) : IntKind.u8.wrap x = x := by
  have h3 : (2 : Int) ^ IntKind.u8.bits = 256 := by decide
  have h5 : IntKind.u8.signed = false := rfl
  simp only [IntKind.wrap, h3, h5, Bool.false_and, Bool.false_eq_true, if_false]
  omega

theorem digit_of (u : Nat) (h : u < 18446744073709551616) : (strNums ([IntKind.u8.wrap (IntKind.u64.wrap (48 + (Int.tmod (u : Int) 10)))] : List Int)) = bytesOf [UInt8.ofNat (48 + u % 10)] := by
  have e : Int.tmod (u : Int) 10 = ((u % 10 : Nat) : Int) := by rw [Int.tmod_eq_emod_of_nonneg (by omega)]; omega
  rw [e, wu64x (by omega) (by omega), wu8x (by omega) (by omega), strNums_bytes]
  congr 1

theorem tdiv10 (u : Nat) (h : u < 18446744073709551616) : IntKind.u64.wrap (Int.tdiv (u : Int) 10) = ((u / 10 : Nat) : Int) := by
  have e : Int.tdiv (u : Int) 10 = ((u / 10 : Nat) : Int) := by rw [Int.tdiv_eq_ediv_of_nonneg (by omega)]; omega
  rw [e, wu64x (by omega) (by omega)]

theorem decimal_l1 : ∀ (f fuel u : Nat) (l : List UInt8), u < 10 ^ (f + 1) → u < 18446744073709551616 → f < fuel → l.length + f ≤ 1000 → ∃ x, F72_crossroadsref03_decimal_l1 fuel (u : Int) (bytesOf l) = some (x, bytesOf ((if u < 10 then [] else digs (u / 10)) ++ l))
  | f, 0, u, l, _, _, hf, _ => by omega
  | f, fuel + 1, u, l, hu, hlt, hf, hl => by
    unfold F72_crossroadsref03_decimal_l1
    by_cases h : u < 10
    · have : decide ((10 : Int) ≤ (u : Int)) = false := by simp; omega
      rw [this, if_pos h]
      exact ⟨_, rfl⟩
    · have : decide ((10 : Int) ≤ (u : Int)) = true := by simp; omega
      rw [this, if_neg h]
      simp only [cond_true]
      cases f with
      | zero => simp at hu; omega
      | succ f =>
        rw [tdiv10 u hlt, digit_of (u / 10) (by omega), bytesOf_append]
        have hs : decide ((bytesOf [UInt8.ofNat (48 + u / 10 % 10)]).size + (bytesOf l).size ≤ 9223372036854775807) = true := by
          rw [bytesOf_size, bytesOf_size]; simp; omega
        rw [hs]
        simp only [cond_true]
        obtain ⟨x, ih⟩ := decimal_l1 f fuel (u / 10) ([UInt8.ofNat (48 + u / 10 % 10)] ++ l) (by rw [Nat.pow_succ] at hu; omega) (by omega) (by omega) (by simp; omega)
        refine ⟨x, ?_⟩
        rw [ih]
        congr 2
        congr 1
        by_cases h2 : u / 10 < 10
        · rw [if_pos h2, digs_small h2, Nat.mod_eq_of_lt h2]; rfl
        · rw [if_neg h2, digs_big h2]; simp

theorem digs_loop (u : Nat) : (if u < 10 then [] else digs (u / 10)) ++ [UInt8.ofNat (48 + u % 10)] = digs u := by
  by_cases h : u < 10
  · rw [if_pos h, digs_small h, Nat.mod_eq_of_lt h]; rfl
  · rw [if_neg h, digs_big h]

theorem wrap_neg {n : Int} (h0 : -9223372036854775808 ≤ n) (hn : n < 0) : IntKind.u64.wrap (-(IntKind.u64.wrap n)) = ((n.natAbs : Nat) : Int) := by
  have h3 : (2 : Int) ^ IntKind.u64.bits = 18446744073709551616 := by decide
  have h5 : IntKind.u64.signed = false := rfl
  simp only [IntKind.wrap, h3, h5, Bool.false_and, Bool.false_eq_true, if_false]
  omega

theorem decimal_eq {n : Int} (h : InK .i64 n) : F72_crossroadsref03_decimal n = some (bytesOf (wr n)) := by
  obtain ⟨h0, h1⟩ := h
  have e0 : IntKind.i64.min = -9223372036854775808 := by decide
  have e1 : IntKind.i64.max = 9223372036854775807 := by decide
  rw [e0] at h0
  rw [e1] at h1
  unfold F72_crossroadsref03_decimal
  by_cases hn : n < 0
  · have : decide (n < 0) = true := by simpa using hn
    rw [this, wrap_neg h0 hn]
    simp only [cond_true]
    have hlt : n.natAbs < 18446744073709551616 := by omega
    rw [digit_of _ hlt]
    obtain ⟨x, hx⟩ := decimal_l1 19 100 n.natAbs [UInt8.ofNat (48 + n.natAbs % 10)] (by omega) hlt (by omega) (by simp)
    rw [hx, digs_loop]
    simp only
    have hl := digs_length 19 n.natAbs (by omega)
    have hs : decide ((bstr [45]).size + (bytesOf (digs n.natAbs)).size ≤ 9223372036854775807) = true := by
      rw [bstr_bytes, bytesOf_size, bytesOf_size]; simp; omega
    rw [hs, bstr_bytes, bytesOf_append]
    simp only [cond_true]
    unfold wr Lib.itoa
    rw [if_pos hn]
    rfl
  · have : decide (n < 0) = false := by simpa using hn
    rw [this]
    simp only [cond_false]
    obtain ⟨u, rfl⟩ : ∃ u : Nat, n = (u : Int) := ⟨n.toNat, by omega⟩
    have hlt : u < 18446744073709551616 := by omega
    rw [wu64x (by omega) (by omega), digit_of _ hlt]
    obtain ⟨x, hx⟩ := decimal_l1 19 100 u [UInt8.ofNat (48 + u % 10)] (by omega) hlt (by omega) (by simp)
    rw [hx, digs_loop]
    simp only
    unfold wr Lib.itoa
    rw [if_neg hn]
    rfl

theorem and255 {x : Nat} (h : x < 4294967296) : bit_and .u32 (x : Int) 255 = ((x % 256 : Nat) : Int) := by
  unfold bit_and
  have e : (255 : Int) = ((255 : Nat) : Int) := rfl
  rw [e, BitVec.toNat_and, ofInt32 h, ofInt32 (by omega)]
  have : x &&& 255 = x % 256 := Nat.and_two_pow_sub_one_eq_mod x 8
  rw [this]
  exact wu32 (by omega) (by omega)

/-- One of the four numbers of an address. -/
def oct (a i : Nat) : Nat := a / 2 ^ (24 - 8 * i) % 256

theorem oct_lt (a i : Nat) : oct a i < 256 := Nat.mod_lt _ (by decide)

theorem wr_nat (u : Nat) : wr (u : Int) = digs u := by
  unfold wr Lib.itoa
  rw [if_neg (by omega)]
  rfl

theorem inK64 {u : Nat} (h : u < 1000) : InK .i64 (u : Int) := by
  have e0 : IntKind.i64.min = -9223372036854775808 := by decide
  have e1 : IntKind.i64.max = 9223372036854775807 := by decide
  unfold InK
  rw [e0, e1]
  omega

theorem digs_oct (a i : Nat) : (digs (oct a i)).length ≤ 3 := digs_length 2 _ (Nat.lt_of_lt_of_le (oct_lt a i) (by decide))

theorem wr_length {n : Int} (h : InK .i64 n) : (wr n).length ≤ 21 := by
  obtain ⟨h0, h1⟩ := h
  have e0 : IntKind.i64.min = -9223372036854775808 := by decide
  have e1 : IntKind.i64.max = 9223372036854775807 := by decide
  rw [e0] at h0
  rw [e1] at h1
  unfold wr Lib.itoa
  split
  · have := digs_length 19 n.natAbs (by omega)
    simp only [List.length_cons]
    unfold digs at this
    omega
  · have := digs_length 19 n.toNat (by omega)
    unfold digs at this
    omega

/-- An address as it is written. -/
def adrL (a : Nat) : List UInt8 := digs (oct a 0) ++ [46] ++ digs (oct a 1) ++ [46] ++ digs (oct a 2) ++ [46] ++ digs (oct a 3)
/-- A prefix as it is written. -/
def textL (a : Nat) (n : Int) : List UInt8 := adrL a ++ [47] ++ wr n

theorem adrL_length (a : Nat) : (adrL a).length ≤ 15 := by
  have h0 := digs_oct a 0
  have h1 := digs_oct a 1
  have h2 := digs_oct a 2
  have h3 := digs_oct a 3
  simp only [adrL, List.length_append, List.length_singleton]
  omega

theorem part_eq {a k i : Nat} (ha : a < 4294967296) (hk : k = 24 - 8 * i) : itoaO (IntKind.i64.wrap (bit_and .u32 (Int.fdiv (a : Int) (2 ^ k)) 255)) = some (bytesOf (digs (oct a i))) := by
  have hle : a / 2 ^ k ≤ a := Nat.div_le_self _ _
  rw [fdiv_nat, and255 (by omega), wi64 (by omega) (by omega)]
  have e : a / 2 ^ k % 256 = oct a i := by rw [hk]; rfl
  rw [e, itoaO_eq (inK64 (Nat.lt_trans (oct_lt a i) (by decide))), wr_nat]

theorem join4 (x y z w : List UInt8) : joinS (((([bytesOf x] : List ByteArray) ++ ([bytesOf y] : List ByteArray)) ++ ([bytesOf z] : List ByteArray)) ++ ([bytesOf w] : List ByteArray)) (bstr [46]) = bytesOf (x ++ [46] ++ y ++ [46] ++ z ++ [46] ++ w) := by
  unfold joinS
  congr 1
  simp only [List.cons_append, List.nil_append, List.map_cons, List.map_nil, bytesOf_data, bstr_bytes]
  rw [Lib.join_cons]
  simp [Lib.joinTail]

theorem text_eq {p : TPrefix} {a : Nat} (hA : p.A = a) (ha : a < 4294967296) (hN : InK .i64 p.N) : F35_addr_Text p = some (bytesOf (textL a p.N)) := by
  have hadr := adrL_length a
  have hwr := wr_length hN
  unfold F35_addr_Text
  rw [hA, part_eq (i := 0) ha rfl, part_eq (i := 1) ha rfl, part_eq (i := 2) ha rfl, part_eq (i := 3) ha rfl, itoaO_eq hN]
  simp only
  have e1 : joinO (((([bytesOf (digs (oct a 0))] : List ByteArray) ++ ([bytesOf (digs (oct a 1))] : List ByteArray)) ++ ([bytesOf (digs (oct a 2))] : List ByteArray)) ++ ([bytesOf (digs (oct a 3))] : List ByteArray)) (bstr [46]) = some (bytesOf (adrL a)) := by
    unfold joinO
    rw [join4]
    rw [if_pos ⟨by simp, by rw [bytesOf_size]; unfold adrL at hadr; omega⟩]
    rfl
  rw [e1]
  have d1 : decide ((([bytesOf (digs (oct a 0))] : List ByteArray) ++ ([bytesOf (digs (oct a 1))] : List ByteArray)).length < 1099511627776) = true := by simp
  have d2 : decide (((([bytesOf (digs (oct a 0))] : List ByteArray) ++ ([bytesOf (digs (oct a 1))] : List ByteArray)) ++ ([bytesOf (digs (oct a 2))] : List ByteArray)).length < 1099511627776) = true := by simp
  rw [d1, d2]
  simp only [cond_true]
  have d3 : decide ((bytesOf (adrL a)).size + (bstr [47]).size ≤ 9223372036854775807) = true := by
    rw [bstr_bytes, bytesOf_size, bytesOf_size]; simp; omega
  rw [d3, bstr_bytes, bytesOf_append]
  have d4 : decide ((bytesOf (adrL a ++ List.map UInt8.ofNat [47])).size + (bytesOf (wr p.N)).size ≤ 9223372036854775807) = true := by
    rw [bytesOf_size, bytesOf_size]; simp; omega
  rw [d4, bytesOf_append]
  rfl

theorem refPart_eq {a i : Nat} (ha : a < 4294967296) (hi : i < 4) : F72_crossroadsref03_decimal (IntKind.i64.wrap (bit_and .u32 (shr_ .u32 (a : Int) (IntKind.u64.wrap (IntKind.i64.wrap (24 - (IntKind.i64.wrap (8 * (i : Int))))))) 255)) = some (bytesOf (digs (oct a i))) := by
  have e1 : IntKind.u64.wrap (IntKind.i64.wrap (24 - (IntKind.i64.wrap (8 * (i : Int))))) = ((24 - 8 * i : Nat) : Int) := by
    rw [wi64 (x := 8 * (i : Int)) (by omega) (by omega), wi64 (by omega) (by omega), wu64x (by omega) (by omega)]
    omega
  rw [e1]
  unfold shr_
  have e2 : min (((24 - 8 * i : Nat) : Int)).toNat IntKind.u32.bits = 24 - 8 * i := by
    have : IntKind.u32.bits = 32 := rfl
    rw [this]; omega
  rw [e2]
  have hle : a / 2 ^ (24 - 8 * i) ≤ a := Nat.div_le_self _ _
  rw [fdiv_nat, and255 (by omega), wi64 (by omega) (by omega)]
  rw [show a / 2 ^ (24 - 8 * i) % 256 = oct a i from rfl, decimal_eq (inK64 (Nat.lt_trans (oct_lt a i) (by decide))), wr_nat]

theorem refText_step {p : TPrefix} {a i fuel : Nat} {s : List UInt8} (hA : p.A = a) (ha : a < 4294967296) (hi : i < 4) (hs : s.length ≤ 1000) :
    F44_crossroadsref03_Text_l1 p (fuel + 1) (bytesOf s) (i : Int) = F44_crossroadsref03_Text_l1 p fuel (bytesOf (s ++ (if 0 < i then [46] else []) ++ digs (oct a i))) ((i + 1 : Nat) : Int) := by
  have hd := digs_oct a i
  rw [F44_crossroadsref03_Text_l1]
  have h4 : decide ((i : Int) < 4) = true := by simp; omega
  rw [h4, hA, refPart_eq ha hi]
  have hw : IntKind.i64.wrap ((i : Int) + 1) = ((i + 1 : Nat) : Int) := by rw [wi64 (by omega) (by omega)]; omega
  rw [hw]
  simp only [cond_true]
  by_cases h0 : 0 < i
  · have : decide ((0 : Int) < (i : Int)) = true := by simp; omega
    rw [this, if_pos h0, bstr_bytes, bytesOf_append]
    have d1 : decide ((bytesOf s).size + (bytesOf (List.map UInt8.ofNat [46])).size ≤ 9223372036854775807) = true := by
      rw [bytesOf_size, bytesOf_size]; simp; omega
    have d2 : decide ((bytesOf (s ++ List.map UInt8.ofNat [46])).size + (bytesOf (digs (oct a i))).size ≤ 9223372036854775807) = true := by
      rw [bytesOf_size, bytesOf_size]; simp; omega
    rw [d1, d2, bytesOf_append]
    rfl
  · have : decide ((0 : Int) < (i : Int)) = false := by simp; omega
    rw [this, if_neg h0]
    have d2 : decide ((bytesOf s).size + (bytesOf (digs (oct a i))).size ≤ 9223372036854775807) = true := by
      rw [bytesOf_size, bytesOf_size]; simp; omega
    rw [d2, bytesOf_append]
    simp

theorem refText_eq {p : TPrefix} {a : Nat} (hA : p.A = a) (ha : a < 4294967296) (hN : InK .i64 p.N) : F44_crossroadsref03_Text p = some (bytesOf (textL a p.N)) := by
  have hadr := adrL_length a
  have hwr := wr_length hN
  have h0 := digs_oct a 0
  have h1 := digs_oct a 1
  have h2 := digs_oct a 2
  have h3 := digs_oct a 3
  have hl : F44_crossroadsref03_Text_l1 p 100 (bstr []) 0 = some (bytesOf (adrL a), 4) := by
    have e : bstr [] = bytesOf [] := rfl
    rw [e]
    have s0 := refText_step (p := p) (fuel := 99) (i := 0) (s := []) hA ha (by decide) (by simp)
    rw [show ((0 : Nat) : Int) = 0 from rfl] at s0
    rw [s0, refText_step hA ha (by decide) (by simp; omega), refText_step hA ha (by decide) (by simp; omega), refText_step hA ha (by decide) (by simp; omega)]
    rw [F44_crossroadsref03_Text_l1]
    have : decide ((((2 + 1 + 1 : Nat)) : Int) < 4) = false := by decide
    rw [show decide (((2 + 1 + 1 : Nat) : Int) < 4) = false by decide]
    simp only [cond_false]
    simp [adrL]
  unfold F44_crossroadsref03_Text
  rw [hl, decimal_eq hN]
  simp only
  have d3 : decide ((bytesOf (adrL a)).size + (bstr [47]).size ≤ 9223372036854775807) = true := by
    rw [bstr_bytes, bytesOf_size, bytesOf_size]; simp; omega
  rw [d3, bstr_bytes, bytesOf_append]
  have d4 : decide ((bytesOf (adrL a ++ List.map UInt8.ofNat [47])).size + (bytesOf (wr p.N)).size ≤ 9223372036854775807) = true := by
    rw [bytesOf_size, bytesOf_size]; simp; omega
  simp only [cond_true]
  rw [d4, bytesOf_append]
  rfl

theorem clamp (i : Int) : ∃ n : Nat, n ≤ 32 ∧ min_ (max_ i 0) 32 = (n : Int) ∧ ∀ j : Int, 0 ≤ j → j < 32 → (j < i ↔ j < (n : Int)) := by
  unfold min_ max_
  by_cases h0 : i < 0
  · refine ⟨0, by omega, ?_, fun j h1 h2 => ?_⟩
    · rw [if_pos h0, if_neg (by omega)]; rfl
    · omega
  · by_cases h1 : 32 < i
    · refine ⟨32, by omega, ?_, fun j h1 h2 => ?_⟩
      · rw [if_neg h0, if_pos h1]; rfl
      · omega
    · refine ⟨i.toNat, by omega, ?_, fun j h1 h2 => ?_⟩
      · rw [if_neg h0, if_neg h1]; omega
      · omega

theorem clampN (n : Nat) (h : n ≤ 32) : min_ (max_ (n : Int) 0) 32 = (n : Int) := by
  unfold min_ max_
  rw [if_neg (by omega), if_neg (by omega)]

theorem addrMask_eq {n : Nat} (h : n ≤ 32) : F68_addr_Mask (n : Int) = ((maskN n : Nat) : Int) := by
  unfold F68_addr_Mask
  exact mask_eq h

/-- A text split at a byte. -/
def splitBy (c : UInt8) : List UInt8 → List (List UInt8)
  | [] => [[]]
  | b :: l => if b = c then [] :: splitBy c l else match splitBy c l with
    | [] => [[b]]
    | x :: r => (b :: x) :: r

theorem splitBy_ne (c : UInt8) : ∀ l, splitBy c l ≠ []
  | [] => by simp [splitBy]
  | b :: l => by
    unfold splitBy
    split
    · simp
    · split <;> simp

theorem index_cons (c b : UInt8) (l : List UInt8) : Lib.index (b :: l) [c] = if b = c then 0 else if Lib.index l [c] = -1 then -1 else Lib.index l [c] + 1 := by
  rw [Lib.index]
  by_cases h : b = c
  · subst h
    simp [List.isPrefixOf]
  · have : (c == b) = false := beq_eq_false_iff_ne.2 fun e => h e.symm
    simp [List.isPrefixOf, this, h]

theorem index_nil (c : UInt8) : Lib.index [] [c] = -1 := by simp [Lib.index]

theorem splitK_one (c : UInt8) : ∀ l : List UInt8, Lib.splitK [c] 0 (l.count c) l = splitBy c l
  | [] => rfl
  | b :: l => by
    have ih := splitK_one c l
    by_cases h : b = c
    · subst h
      rw [List.count_cons_self, Lib.splitK, index_cons, if_pos rfl]
      simp only [splitBy, if_pos rfl]
      rw [← ih]
      simp
    · rw [List.count_cons_of_ne (by simpa using h)]
      simp only [splitBy, if_neg h]
      rw [← ih]
      cases hk : l.count c with
      | zero => simp [Lib.splitK]
      | succ k =>
        rw [Lib.splitK, Lib.splitK, index_cons, if_neg h]
        by_cases hi : Lib.index l [c] = -1
        · simp [hi]
        · have hge := Lib.index_ge l [c]
          rw [if_neg hi]
          have e1 : (Lib.index l [c] + 1 == -1) = false := by simp; omega
          have e2 : (Lib.index l [c] == -1) = false := by simpa using hi
          rw [e1, e2]
          have e3 : (Lib.index l [c] + 1).toNat = (Lib.index l [c]).toNat + 1 := by omega
          simp only [Bool.false_eq_true, if_false, e3, List.length_singleton]
          simp

theorem splitS_eq (s : ByteArray) (c : Nat) : (splitS s (bstr [c])).map (·.data.toList) = splitBy (UInt8.ofNat c) s.data.toList := by
  unfold splitS
  rw [Lib.splitB_data, bstr_bytes]
  simp only [bytesOf_data, List.map_cons, List.map_nil]
  show Lib.splitK [UInt8.ofNat c] 0 (Lib.count s.data.toList (bytesOf [UInt8.ofNat c]).data.toList) s.data.toList = _
  rw [bytesOf_data, Lib.count_one, splitK_one]

theorem index_none {c : UInt8} : ∀ {l : List UInt8}, c ∉ l → Lib.index l [c] = -1
  | [], _ => index_nil c
  | b :: l, h => by
    rw [index_cons, if_neg (fun e => h (by rw [e]; exact List.mem_cons_self)), index_none fun k => h (List.mem_cons_of_mem _ k)]
    rfl
theorem index_at {c : UInt8} : ∀ {x : List UInt8} (y : List UInt8), c ∉ x → Lib.index (x ++ c :: y) [c] = (x.length : Int)
  | [], y, _ => by rw [List.nil_append, index_cons, if_pos rfl]; rfl
  | b :: x, y, h => by
    rw [List.cons_append, index_cons, if_neg (fun e => h (by rw [e]; exact List.mem_cons_self)), index_at y fun k => h (List.mem_cons_of_mem _ k)]
    rw [if_neg (by omega)]
    simp

theorem cut_at {c : UInt8} {x y : List UInt8} (h : c ∉ x) : Lib.cut (x ++ c :: y) [c] = (x, y, true) := by
  unfold Lib.cut
  rw [index_at y h, if_pos (by omega)]
  simp
theorem cut_no {c : UInt8} {l : List UInt8} (h : c ∉ l) : Lib.cut l [c] = (l, [], false) := by
  unfold Lib.cut
  rw [index_none h, if_neg (by omega)]

theorem split_mem {c : UInt8} : ∀ {l : List UInt8}, c ∈ l → ∃ x y, l = x ++ c :: y ∧ c ∉ x
  | [], h => by cases h
  | b :: l, h => by
    by_cases e : b = c
    · subst e
      exact ⟨[], l, rfl, by simp⟩
    · have : c ∈ l := by
        rcases List.mem_cons.1 h with k | k
        · exact absurd k.symm e
        · exact k
      obtain ⟨x, y, rfl, hx⟩ := split_mem this
      exact ⟨b :: x, y, rfl, by simp [hx]; exact fun k => e k.symm⟩

theorem splitBy_no {c : UInt8} : ∀ {l : List UInt8}, c ∉ l → splitBy c l = [l]
  | [], _ => rfl
  | b :: l, h => by
    unfold splitBy
    rw [if_neg (fun e => h (by rw [e]; exact List.mem_cons_self)), splitBy_no fun k => h (List.mem_cons_of_mem _ k)]
theorem splitBy_at {c : UInt8} : ∀ {x : List UInt8} (y : List UInt8), c ∉ x → splitBy c (x ++ c :: y) = x :: splitBy c y
  | [], y, _ => by rw [List.nil_append, splitBy, if_pos rfl]
  | b :: x, y, h => by
    rw [List.cons_append, splitBy, if_neg (fun e => h (by rw [e]; exact List.mem_cons_self)), splitBy_at y fun k => h (List.mem_cons_of_mem _ k)]

theorem splitBy_one {c : UInt8} {l x : List UInt8} (h : splitBy c l = [x]) : l = x ∧ c ∉ l := by
  by_cases hc : c ∈ l
  · obtain ⟨a, b, rfl, ha⟩ := split_mem hc
    rw [splitBy_at b ha] at h
    injection h with _ h
    exact absurd h (splitBy_ne c b)
  · rw [splitBy_no hc] at h
    injection h with h _
    exact ⟨h, hc⟩
theorem splitBy_more {c : UInt8} {l x y : List UInt8} {r : List (List UInt8)} (h : splitBy c l = x :: y :: r) : ∃ l', l = x ++ c :: l' ∧ c ∉ x ∧ splitBy c l' = y :: r := by
  by_cases hc : c ∈ l
  · obtain ⟨a, b, rfl, ha⟩ := split_mem hc
    rw [splitBy_at b ha] at h
    injection h with h1 h2
    subst h1
    exact ⟨b, rfl, ha, h2⟩
  · rw [splitBy_no hc] at h
    simp at h

/-- Digits, no nought ahead. -/
def Can (l : List UInt8) : Prop := l ≠ [] ∧ (1 < l.length → l[0]? ≠ some 48) ∧ ∀ b ∈ l, dig b

theorem valL_snoc (l : List UInt8) (b : UInt8) : valL (l ++ [b]) = valL l * 10 + (b.toNat - 48) := by simp [valL, valF]

theorem dig_back {b : UInt8} (h : dig b) : UInt8.ofNat (48 + (b.toNat - 48)) = b := by
  have := h.1
  rw [show 48 + (b.toNat - 48) = b.toNat by omega]
  simp

theorem valL_pos : ∀ (n : Nat) (l : List UInt8), l.length ≤ n → l ≠ [] → (∀ b ∈ l, dig b) → l[0]? ≠ some 48 → 0 < valL l
  | 0, l, hn, h0, _, _ => by
    have := List.length_pos_iff.2 h0
    omega
  | n + 1, l, hn, h0, hd, hh => by
    rcases List.eq_nil_or_concat l with rfl | ⟨r, b, rfl⟩
    · exact absurd rfl h0
    · simp only [List.concat_eq_append] at *
      rw [valL_snoc]
      have hb := hd b (by simp)
      by_cases hr : r = []
      · subst hr
        simp at hh
        have : b.toNat ≠ 48 := fun e => hh (UInt8.toNat_inj.1 (by rw [e]; rfl))
        have := hb.1
        omega
      · have := valL_pos n r (by simp at hn; omega) hr (fun x hx => hd x (by simp [hx])) (fun e => hh (by
          rw [List.getElem?_append_left (List.length_pos_iff.2 hr)]; exact e))
        omega

theorem digs_val : ∀ (n : Nat) (l : List UInt8), l.length ≤ n → Can l → digs (valL l) = l
  | 0, l, hn, h => by
    have := List.length_pos_iff.2 h.1
    omega
  | n + 1, l, hn, h => by
    obtain ⟨h0, h1, h2⟩ := h
    rcases List.eq_nil_or_concat l with rfl | ⟨r, b, rfl⟩
    · exact absurd rfl h0
    · simp only [List.concat_eq_append] at *
      rw [valL_snoc]
      have hb := h2 b (by simp)
      by_cases hr : r = []
      · subst hr
        rw [show valL [] = 0 from rfl, Nat.zero_mul, Nat.zero_add, digs_small (by have := hb.2; omega), dig_back hb]
        rfl
      · have hrl := List.length_pos_iff.2 hr
        have hh : r[0]? ≠ some 48 := fun e => h1 (by simp; omega) (by rw [List.getElem?_append_left hrl]; exact e)
        have hp := valL_pos n r (by simp at hn; omega) hr (fun x hx => h2 x (by simp [hx])) hh
        have h9 : b.toNat - 48 < 10 := by have := hb.2; omega
        rw [digs_big (by omega), show (valL r * 10 + (b.toNat - 48)) / 10 = valL r by omega, show (valL r * 10 + (b.toNat - 48)) % 10 = b.toNat - 48 by omega, dig_back hb]
        rw [digs_val n r (by simp at hn; omega) ⟨hr, fun _ => hh, fun x hx => h2 x (by simp [hx])⟩]

theorem dig_ofNat {k : Nat} (h : k < 10) : dig (UInt8.ofNat (48 + k)) ∧ (UInt8.ofNat (48 + k)).toNat = 48 + k := by
  have : (UInt8.ofNat (48 + k)).toNat = 48 + k := by simp; omega
  exact ⟨by unfold dig; rw [this]; omega, this⟩

theorem digs_can : ∀ (f u : Nat), u < 10 ^ (f + 1) → Can (digs u) ∧ valL (digs u) = u ∧ (u ≠ 0 → (digs u)[0]? ≠ some 48)
  | 0, u, h => by
    have h : u < 10 := by simpa using h
    obtain ⟨d1, d2⟩ := dig_ofNat h
    rw [digs_small h]
    generalize UInt8.ofNat (48 + u) = q at d1 d2 ⊢
    refine ⟨⟨by simp, fun k => by simp at k, fun b hb => by simp at hb; rw [hb]; exact d1⟩, by simp [valL, valF, d2], fun h0 e => ?_⟩
    simp at e
    rw [e] at d2
    simp at d2
    omega
  | f + 1, u, h => by
    by_cases hu : u < 10
    · obtain ⟨d1, d2⟩ := dig_ofNat hu
      rw [digs_small hu]
      generalize UInt8.ofNat (48 + u) = q at d1 d2 ⊢
      refine ⟨⟨by simp, fun k => by simp at k, fun b hb => by simp at hb; rw [hb]; exact d1⟩, by simp [valL, valF, d2], fun h0 e => ?_⟩
      simp at e
      rw [e] at d2
      simp at d2
      omega
    · obtain ⟨⟨c1, c2, c3⟩, c4, c5⟩ := digs_can f (u / 10) (by rw [Nat.pow_succ] at h; omega)
      obtain ⟨d1, d2⟩ := dig_ofNat (k := u % 10) (by omega)
      rw [digs_big hu]
      generalize UInt8.ofNat (48 + u % 10) = q at d1 d2 ⊢
      have hl := List.length_pos_iff.2 c1
      have hh : (digs (u / 10) ++ [q])[0]? ≠ some 48 := by
        rw [List.getElem?_append_left hl]
        exact c5 (by omega)
      refine ⟨⟨by simp, fun _ => hh, fun b hb => ?_⟩, ?_, fun _ => hh⟩
      · rcases List.mem_append.1 hb with hb | hb
        · exact c3 b hb
        · simp at hb; rw [hb]; exact d1
      · rw [valL_snoc, c4, d2]
        omega

theorem numOk_digs {u : Nat} (h : u < 1000) : NumOk (digs u) ∧ valL (digs u) = u := by
  obtain ⟨⟨c1, c2, c3⟩, c4, _⟩ := digs_can 2 u h
  exact ⟨⟨c1, digs_length 2 u h, c2, c3⟩, c4⟩

theorem digs_numOk {l : List UInt8} (h : NumOk l) : digs (valL l) = l := digs_val l.length l (Nat.le_refl _) ⟨h.1, h.2.2.1, h.2.2.2⟩

theorem valL_lt : ∀ (n : Nat) (l : List UInt8), l.length ≤ n → (∀ b ∈ l, dig b) → valL l < 10 ^ n
  | 0, l, hn, _ => by
    have : l = [] := List.length_eq_zero_iff.1 (by omega)
    subst this
    decide
  | n + 1, l, hn, hd => by
    rcases List.eq_nil_or_concat l with rfl | ⟨r, b, rfl⟩
    · rw [show valL [] = 0 from rfl]; exact Nat.pos_of_ne_zero (by simp)
    · simp only [List.concat_eq_append] at *
      rw [valL_snoc, Nat.pow_succ]
      have := valL_lt n r (by simp at hn; omega) (fun x hx => hd x (by simp [hx]))
      have := (hd b (by simp)).2
      omega

theorem no46 {l : List UInt8} (h : ∀ b ∈ l, dig b) : (46 : UInt8) ∉ l ∧ (47 : UInt8) ∉ l := by
  constructor
  · intro k
    have := (h _ k).1
    simp at this
  · intro k
    have := (h _ k).1
    simp at this

/-- Digits end where no digit is. -/
theorem digits_end {d e x y : List UInt8} {c c' : UInt8} (hd : ∀ b ∈ d, dig b) (he : ∀ b ∈ e, dig b) (hc : ¬ dig c) (hc' : ¬ dig c') (h : d ++ c :: x = e ++ c' :: y) : d = e ∧ c = c' ∧ x = y := by
  induction d generalizing e with
  | nil =>
    cases e with
    | nil => simp at h; exact ⟨rfl, h.1, h.2⟩
    | cons b e =>
      simp at h
      exact absurd (he b (by simp)) (by rw [← h.1]; exact hc)
  | cons b d ih =>
    cases e with
    | nil =>
      simp at h
      exact absurd (hd b (by simp)) (by rw [h.1]; exact hc')
    | cons b' e =>
      simp at h
      obtain ⟨rfl, h⟩ := h
      obtain ⟨rfl, h2⟩ := ih (fun x hx => hd x (by simp [hx])) (fun x hx => he x (by simp [hx])) h
      exact ⟨rfl, h2⟩

theorem nd46 : ¬ dig 46 := by decide
theorem nd47 : ¬ dig 47 := by decide

/-- One of the four numbers of an address, as it is written. -/
def Part (d : List UInt8) : Prop := NumOk d ∧ valL d ≤ 255

def A4 (d0 d1 d2 d3 : List UInt8) : Nat := ((valL d0 * 256 + valL d1) * 256 + valL d2) * 256 + valL d3

structure Dec (l d0 d1 d2 d3 t : List UInt8) : Prop where
  eq : l = d0 ++ 46 :: (d1 ++ 46 :: (d2 ++ 46 :: (d3 ++ 47 :: t)))
  p0 : Part d0
  p1 : Part d1
  p2 : Part d2
  p3 : Part d3
  nt : NumOk t
  vt : valL t ≤ 32

def resOf (p : TPrefix) : TPrefix × Int := if F37_addr_May p = true then (p, 0) else (⟨0, 0⟩, 1)

theorem A4_lt {d0 d1 d2 d3 : List UInt8} (h0 : Part d0) (h1 : Part d1) (h2 : Part d2) (h3 : Part d3) : A4 d0 d1 d2 d3 < 4294967296 := by
  have := h0.2
  have := h1.2
  have := h2.2
  have := h3.2
  unfold A4
  omega

theorem or_add {x c : Nat} (hx : x < 16777216) (hc : c < 256) : bit_or .u32 (IntKind.u32.wrap ((x : Int) * 2 ^ 8)) (IntKind.u32.wrap (c : Int)) = ((x * 256 + c : Nat) : Int) := by
  have e1 : IntKind.u32.wrap ((x : Int) * 2 ^ 8) = ((x * 256 : Nat) : Int) := by
    rw [show (2 : Int) ^ 8 = 256 by decide, wu32 (by omega) (by omega)]; omega
  rw [e1, wu32 (x := (c : Int)) (by omega) (by omega)]
  unfold bit_or
  rw [BitVec.toNat_or, ofInt32 (by omega), ofInt32 (by omega)]
  have : x * 256 ||| c = x * 256 + c := by
    have := Nat.shiftLeft_add_eq_or_of_lt (i := 8) (b := c) (by omega) x
    rw [Nat.shiftLeft_eq] at this
    exact this.symm
  rw [this, wu32 (by omega) (by omega)]

theorem parse_step {A : Nat} {N : Int} {d : List UInt8} {l : List ByteArray} (hA : A < 16777216) (h : Part d) : F32_addr_Parse_l1 ⟨(A : Int), N⟩ (bytesOf d :: l) = F32_addr_Parse_l1 ⟨((A * 256 + valL d : Nat) : Int), N⟩ l := by
  have hv := h.2
  rw [F32_addr_Parse_l1]
  rw [number_ok (s := bytesOf d) (by rw [bytesOf_data]; exact h.1), bytesOf_data]
  have : decide ((valL d : Int) ≤ 255) = true := by simp; omega
  simp only [this, cond_true]
  rw [or_add hA (by omega)]

theorem parse_stop {p : TPrefix} {d : List UInt8} {l : List ByteArray} (h : ¬ Part d) : F32_addr_Parse_l1 p (bytesOf d :: l) = some (.error (⟨0, 0⟩, 3)) := by
  rw [F32_addr_Parse_l1]
  by_cases hn : NumOk d
  · rw [number_ok (s := bytesOf d) (by rw [bytesOf_data]; exact hn), bytesOf_data]
    have : decide ((valL d : Int) ≤ 255) = false := by
      simp only [decide_eq_false_iff_not]
      intro k
      exact h ⟨hn, by omega⟩
    simp only [this, cond_false]
  · rw [number_no (s := bytesOf d) (by rw [bytesOf_data]; exact hn)]
    simp only [cond_false]

theorem bytes_map : ∀ {xs : List ByteArray} {ls : List (List UInt8)}, xs.map (·.data.toList) = ls → xs = ls.map bytesOf
  | [], ls, h => by subst h; rfl
  | x :: xs, ls, h => by
    subst h
    simp only [List.map_cons, bytesOf_self, List.cons.injEq, true_and]
    exact bytes_map rfl

theorem cutO_47 {s : ByteArray} (hs : s.size < 4294967281) : (∃ x y, s.data.toList = x ++ 47 :: y ∧ (47 : UInt8) ∉ x ∧ cutO s (bstr [47]) = some (bytesOf x, bytesOf y, true)) ∨ ((47 : UInt8) ∉ s.data.toList ∧ cutO s (bstr [47]) = some (s, bytesOf [], false)) := by
  have e : (bstr [47]).data.toList = [47] := by rw [bstr_bytes, bytesOf_data]; rfl
  unfold cutO cutS
  rw [if_pos hs, e]
  by_cases h : (47 : UInt8) ∈ s.data.toList
  · obtain ⟨x, y, hl, hx⟩ := split_mem h
    left
    refine ⟨x, y, hl, hx, ?_⟩
    rw [hl, cut_at hx]
  · right
    refine ⟨h, ?_⟩
    rw [cut_no h, bytesOf_self]

theorem splitO_46 {l : List UInt8} (hs : l.length < 4294967281) : splitO (bytesOf l) (bstr [46]) = some ((splitBy 46 l).map bytesOf) := by
  unfold splitO
  rw [if_pos ⟨by rw [bytesOf_size]; exact hs, by rw [bstr_bytes, bytesOf_size]; simp⟩]
  congr 1
  apply bytes_map
  rw [splitS_eq, bytesOf_data]
  rfl

theorem dec_head {d0 d1 d2 d3 t : List UInt8} : d0 ++ 46 :: (d1 ++ 46 :: (d2 ++ 46 :: (d3 ++ 47 :: t))) = (d0 ++ 46 :: (d1 ++ 46 :: (d2 ++ 46 :: d3))) ++ 47 :: t := by simp

theorem not47 {d0 d1 d2 d3 : List UInt8} (h0 : Part d0) (h1 : Part d1) (h2 : Part d2) (h3 : Part d3) : (47 : UInt8) ∉ d0 ++ 46 :: (d1 ++ 46 :: (d2 ++ 46 :: d3)) := by
  have n0 := (no46 h0.1.2.2.2).2
  have n1 := (no46 h1.1.2.2.2).2
  have n2 := (no46 h2.1.2.2.2).2
  have n3 := (no46 h3.1.2.2.2).2
  simp only [List.mem_append, List.mem_cons, not_or]
  refine ⟨n0, by decide, n1, by decide, n2, by decide, n3⟩

theorem prog_dec {s : ByteArray} (hs : s.size < 4294967281) {d0 d1 d2 d3 t : List UInt8} (h : Dec s.data.toList d0 d1 d2 d3 t) : F32_addr_Parse s = some (resOf ⟨(A4 d0 d1 d2 d3 : Int), (valL t : Int)⟩) := by
  have hlen : (d0 ++ 46 :: (d1 ++ 46 :: (d2 ++ 46 :: d3))).length < 4294967281 := by
    have := congrArg List.length h.eq
    rw [← Lib.size_eq, dec_head, List.length_append] at this
    omega
  have hc : cutO s (bstr [47]) = some (bytesOf (d0 ++ 46 :: (d1 ++ 46 :: (d2 ++ 46 :: d3))), bytesOf t, true) := by
    unfold cutO cutS
    have e : (bstr [47]).data.toList = [47] := by rw [bstr_bytes, bytesOf_data]; rfl
    rw [if_pos hs, e, h.eq, dec_head, cut_at (not47 h.p0 h.p1 h.p2 h.p3)]
  have hsp : splitBy 46 (d0 ++ 46 :: (d1 ++ 46 :: (d2 ++ 46 :: d3))) = [d0, d1, d2, d3] := by
    rw [splitBy_at _ (no46 h.p0.1.2.2.2).1, splitBy_at _ (no46 h.p1.1.2.2.2).1, splitBy_at _ (no46 h.p2.1.2.2.2).1, splitBy_no (no46 h.p3.1.2.2.2).1]
  unfold F32_addr_Parse
  rw [hc]
  simp only
  rw [splitO_46 hlen, hsp]
  simp only [List.map_cons, List.map_nil]
  rw [number_ok (s := bytesOf t) (by rw [bytesOf_data]; exact h.nt), bytesOf_data]
  have hd : decide ((valL t : Int) ≤ 32) = true := by simp; have := h.vt; omega
  simp only [hd, cond_true]
  have h4 : decide ((([bytesOf d0, bytesOf d1, bytesOf d2, bytesOf d3] : List ByteArray).length : Int) = 4) = true := by simp
  rw [h4]
  simp only [cond_true]
  have v0 := h.p0.2
  have v1 := h.p1.2
  have v2 := h.p2.2
  have e0 := parse_step (A := 0) (N := (valL t : Int)) (l := [bytesOf d1, bytesOf d2, bytesOf d3]) (by omega) h.p0
  rw [show (((0 : Nat) : Int)) = 0 from rfl] at e0
  rw [e0, parse_step (by omega) h.p1, parse_step (by omega) h.p2, parse_step (by omega) h.p3, F32_addr_Parse_l1]
  simp only
  have e : (((0 * 256 + valL d0) * 256 + valL d1) * 256 + valL d2) * 256 + valL d3 = A4 d0 d1 d2 d3 := by unfold A4; omega
  rw [e]
  unfold resOf
  cases F37_addr_May ⟨(A4 d0 d1 d2 d3 : Int), (valL t : Int)⟩ <;> rfl

theorem prog_no {s : ByteArray} (hs : s.size < 4294967281) (h : ¬ ∃ d0 d1 d2 d3 t, Dec s.data.toList d0 d1 d2 d3 t) : F32_addr_Parse s = some (⟨0, 0⟩, 3) := by
  unfold F32_addr_Parse
  rcases cutO_47 hs with ⟨x, y, hl, hx, hc⟩ | ⟨hl, hc⟩
  · have hlen : x.length < 4294967281 := by
      have := congrArg List.length hl
      rw [← Lib.size_eq, List.length_append] at this
      omega
    rw [hc]
    simp only
    rw [splitO_46 hlen]
    simp only
    by_cases hy : NumOk y
    · rw [number_ok (s := bytesOf y) (by rw [bytesOf_data]; exact hy), bytesOf_data]
      by_cases hv : valL y ≤ 32
      · have hd : decide ((valL y : Int) ≤ 32) = true := by simp; omega
        simp only [hd, cond_true]
        by_cases h4 : (splitBy 46 x).length = 4
        · obtain ⟨q0, q1, q2, q3, hq⟩ : ∃ q0 q1 q2 q3, splitBy 46 x = [q0, q1, q2, q3] := by
            match hh : splitBy 46 x, h4 with
            | [a, b, c, d], _ => exact ⟨a, b, c, d, rfl⟩
          obtain ⟨x1, e1, _, s1⟩ := splitBy_more hq
          obtain ⟨x2, e2, _, s2⟩ := splitBy_more s1
          obtain ⟨x3, e3, _, s3⟩ := splitBy_more s2
          obtain ⟨e4, _⟩ := splitBy_one s3
          rw [hq]
          have hd4 : decide (((([q0, q1, q2, q3] : List (List UInt8)).map bytesOf).length : Int) = 4) = true := by simp
          rw [hd4]
          simp only [cond_true, List.map_cons, List.map_nil]
          have hno : ¬ (Part q0 ∧ Part q1 ∧ Part q2 ∧ Part q3) := by
            rintro ⟨p0, p1, p2, p3⟩
            refine h ⟨q0, q1, q2, q3, y, ?_, p0, p1, p2, p3, hy, hv⟩
            rw [hl, e1, e2, e3, e4]
            simp
          have key : F32_addr_Parse_l1 ⟨0, (valL y : Int)⟩ [bytesOf q0, bytesOf q1, bytesOf q2, bytesOf q3] = some (.error (⟨0, 0⟩, 3)) := by
            by_cases p0 : Part q0
            · have v0 := p0.2
              have e0 := parse_step (A := 0) (N := (valL y : Int)) (l := [bytesOf q1, bytesOf q2, bytesOf q3]) (by omega) p0
              rw [show (((0 : Nat) : Int)) = 0 from rfl] at e0
              rw [e0]
              by_cases p1 : Part q1
              · have v1 := p1.2
                rw [parse_step (by omega) p1]
                by_cases p2 : Part q2
                · have v2 := p2.2
                  rw [parse_step (by omega) p2]
                  exact parse_stop fun p3 => hno ⟨p0, p1, p2, p3⟩
                · exact parse_stop p2
              · exact parse_stop p1
            · exact parse_stop p0
          rw [key]
        · have hd4 : decide ((((splitBy 46 x).map bytesOf).length : Int) = 4) = false := by
            rw [List.length_map]
            simp only [decide_eq_false_iff_not]
            omega
          simp only [hd4, cond_false]
      · have hd : decide ((valL y : Int) ≤ 32) = false := by simp; omega
        simp only [hd, cond_true, cond_false]
    · rw [number_no (s := bytesOf y) (by rw [bytesOf_data]; exact hy)]
      simp only [cond_true, cond_false]
  · rw [hc]
    simp only
    have hsp := splitO_46 (l := s.data.toList) (by rw [← Lib.size_eq]; exact hs)
    rw [bytesOf_self] at hsp
    rw [hsp]
    simp only
    rw [number_no (s := bytesOf []) (by rw [bytesOf_data]; exact fun k => k.1 rfl)]
    simp only [cond_false]

theorem run_ex : ∀ (m : Nat) (l : List UInt8), ∃ K, K ≤ m ∧ K ≤ l.length ∧ (∀ b ∈ l.take K, dig b) ∧ (K = m ∨ K = l.length ∨ ∃ b, l[K]? = some b ∧ ¬ dig b)
  | 0, l => ⟨0, by omega, by omega, by simp, .inl rfl⟩
  | m + 1, [] => ⟨0, by omega, by simp, by simp, .inr (.inl rfl)⟩
  | m + 1, b :: l => by
    by_cases h : dig b
    · obtain ⟨K, k1, k2, k3, k4⟩ := run_ex m l
      refine ⟨K + 1, by omega, by simp; omega, fun x hx => ?_, ?_⟩
      · rw [List.take_succ_cons] at hx
        rcases List.mem_cons.1 hx with rfl | hx
        · exact h
        · exact k3 x hx
      · rcases k4 with k4 | k4 | ⟨c, k4, k5⟩
        · exact .inl (by omega)
        · exact .inr (.inl (by simp; omega))
        · exact .inr (.inr ⟨c, by simpa using k4, k5⟩)
    · exact ⟨0, by omega, by simp, by simp, .inr (.inr ⟨b, by simp, h⟩)⟩

theorem valL_big : ∀ (n : Nat) (l : List UInt8), l.length = n + 1 → (∀ b ∈ l, dig b) → l[0]? ≠ some 48 → 10 ^ n ≤ valL l
  | 0, l, hn, hd, hh => by
    have := valL_pos 1 l (by omega) (List.length_pos_iff.1 (by omega)) hd hh
    show 1 ≤ valL l
    exact this
  | n + 1, l, hn, hd, hh => by
    rcases List.eq_nil_or_concat l with rfl | ⟨r, b, rfl⟩
    · simp at hn
    · simp only [List.concat_eq_append] at *
      have hr : 0 < r.length := by simp at hn; omega
      rw [valL_snoc, Nat.pow_succ]
      have := valL_big n r (by simp at hn; omega) (fun x hx => hd x (by simp [hx])) (fun e => hh (by rw [List.getElem?_append_left hr]; exact e))
      omega

theorem sub48 {b : UInt8} (h : dig b) : IntKind.i64.wrap (IntKind.u8.wrap ((b.toNat : Int) - 48)) = ((b.toNat - 48 : Nat) : Int) := by
  have h1 := h.1
  have h2 := h.2
  rw [wu8x (by omega) (by omega), wi64 (by omega) (by omega)]
  omega

theorem refnum_l1 {s : ByteArray} {K : Nat} (k1 : K ≤ 4) (k2 : K ≤ s.data.toList.length) (k3 : ∀ b ∈ s.data.toList.take K, dig b) (k4 : K = 4 ∨ K = s.data.toList.length ∨ ∃ b, s.data.toList[K]? = some b ∧ ¬ dig b) :
    ∀ (fuel k : Nat), k ≤ K → K < fuel + k → F73_crossroadsref03_number_l1 s fuel (valL (s.data.toList.take k) : Int) (k : Int) = some ((valL (s.data.toList.take K) : Int), (K : Int))
  | 0, k, h1, h2 => by omega
  | fuel + 1, k, h1, h2 => by
    have hsz : s.size = s.data.toList.length := Lib.size_eq s
    rw [F73_crossroadsref03_number_l1]
    have d0 : decide ((0 : Int) ≤ (k : Int)) = true := by simp
    by_cases hk : k = K
    · subst hk
      by_cases hl : k < s.data.toList.length
      · have d1 : decide ((k : Int) < (s.size : Int)) = true := by simp; omega
        rw [d1, d0]
        simp only [cond_true]
        obtain ⟨x, hb⟩ : ∃ x, s.data.toList[k]? = some x := ⟨_, List.getElem?_eq_getElem hl⟩
        rw [strAt_eq hb]
        by_cases hd : dig x
        · have d2 : decide ((48 : Int) ≤ (x.toNat : Int)) = true := by have := hd.1; simp; omega
          have d3 : decide ((x.toNat : Int) ≤ 57) = true := by have := hd.2; simp; omega
          have d4 : decide ((k : Int) < 4) = false := by
            rcases k4 with k4 | k4 | ⟨c, k5, k6⟩
            · simp; omega
            · omega
            · rw [hb] at k5; injection k5 with k5; rw [k5] at hd; exact absurd hd k6
          rw [d2, d3, d4]
          simp only [cond_true, cond_false]
        · by_cases h48 : 48 ≤ x.toNat
          · have d2 : decide ((48 : Int) ≤ (x.toNat : Int)) = true := by simp; omega
            have d3 : decide ((x.toNat : Int) ≤ 57) = false := by
              simp only [decide_eq_false_iff_not]
              intro h57
              exact hd ⟨h48, by omega⟩
            rw [d2, d3]
            simp only [cond_true, cond_false]
          · have d2 : decide ((48 : Int) ≤ (x.toNat : Int)) = false := by simp; omega
            rw [d2]
            simp only [cond_false]
      · have d1 : decide ((k : Int) < (s.size : Int)) = false := by simp; omega
        rw [d1]
        simp only [cond_false]
    · have hl : k < s.data.toList.length := by omega
      have d1 : decide ((k : Int) < (s.size : Int)) = true := by simp; omega
      obtain ⟨x, hb⟩ : ∃ x, s.data.toList[k]? = some x := ⟨_, List.getElem?_eq_getElem hl⟩
      have hd : dig x := k3 _ (List.mem_iff_getElem?.2 ⟨k, by rw [List.getElem?_take]; rw [if_pos (by omega)]; exact hb⟩)
      have d2 : decide ((48 : Int) ≤ (x.toNat : Int)) = true := by have := hd.1; simp; omega
      have d3 : decide ((x.toNat : Int) ≤ 57) = true := by have := hd.2; simp; omega
      have d4 : decide ((k : Int) < 4) = true := by simp; omega
      rw [d1, d0, strAt_eq hb, d2, d3, d4]
      simp only [cond_true]
      have hv : valL (s.data.toList.take k) < 10 ^ k := valL_lt k _ (by simp; omega) fun b hb => k3 b (List.mem_iff_getElem?.2 (by
        obtain ⟨j, hj⟩ := List.mem_iff_getElem?.1 hb
        rw [List.getElem?_take] at hj
        split at hj
        · exact ⟨j, by rw [List.getElem?_take, if_pos (by omega)]; exact hj⟩
        · cases hj))
      have hv4 : valL (s.data.toList.take k) < 10000 := Nat.lt_of_lt_of_le hv (Nat.pow_le_pow_right (by decide) (by omega : k ≤ 4))
      have hnext : valL (s.data.toList.take (k + 1)) = valL (s.data.toList.take k) * 10 + (x.toNat - 48) := by
        rw [List.take_add_one, hb]
        exact valL_snoc _ _
      have h57 := hd.2
      have e1 : IntKind.i64.wrap ((IntKind.i64.wrap ((valL (s.data.toList.take k) : Int) * 10)) + (IntKind.i64.wrap (IntKind.u8.wrap ((x.toNat : Int) - 48)))) = (valL (s.data.toList.take (k + 1)) : Int) := by
        rw [sub48 hd, wi64 (x := (valL (s.data.toList.take k) : Int) * 10) (by omega) (by omega), wi64 (by omega) (by omega), hnext]
        omega
      have e2 : IntKind.i64.wrap ((k : Int) + 1) = ((k + 1 : Nat) : Int) := by rw [wi64 (by omega) (by omega)]; omega
      rw [e1, e2]
      exact refnum_l1 k1 k2 k3 k4 fuel (k + 1) (by omega) (by omega)

/-- What stands behind begins with no digit. -/
def Ends (r : List UInt8) : Prop := ∀ b r', r = b :: r' → ¬ dig b

theorem refnum_cases {l : List UInt8} {most : Nat} (hm : most ≤ 255) :
    (∃ d r, l = d ++ r ∧ NumOk d ∧ valL d ≤ most ∧ Ends r ∧ F73_crossroadsref03_number (bytesOf l) (most : Int) = some ((valL d : Int), (d.length : Int))) ∨
    (F73_crossroadsref03_number (bytesOf l) (most : Int) = some (0, 0) ∧ ¬ ∃ d r, l = d ++ r ∧ NumOk d ∧ valL d ≤ most ∧ Ends r) := by
  obtain ⟨K, k1, k2, k3, k4⟩ := run_ex 4 l
  have hl1 := refnum_l1 (s := bytesOf l) (K := K) k1 (by rw [bytesOf_data]; exact k2) (by rw [bytesOf_data]; exact k3) (by rw [bytesOf_data]; exact k4) 100 0 (by omega) (by omega)
  rw [bytesOf_data] at hl1
  have hl1 : F73_crossroadsref03_number_l1 (bytesOf l) 100 0 0 = some ((valL (l.take K) : Int), (K : Int)) := hl1
  have hsz : (bytesOf l).size = l.length := bytesOf_size l
  -- whoever fits is this one
  have uniq : ∀ d r, l = d ++ r → NumOk d → Ends r → d.length = K ∧ d = l.take K := by
    intro d r he hd hr
    have hK : d.length = K := by
      have h3 := hd.2.1
      have hpos := List.length_pos_iff.2 hd.1
      rcases Nat.lt_trichotomy d.length K with h | h | h
      · exfalso
        have hlt : d.length < l.length := by omega
        have hb : l[d.length]? = some (l[d.length]) := List.getElem?_eq_getElem hlt
        have hdig := k3 _ (List.mem_iff_getElem?.2 ⟨d.length, by rw [List.getElem?_take, if_pos h]; exact hb⟩)
        match r, he, hr with
        | [], he, hr => rw [he] at hlt; simp at hlt
        | b :: r', he, hr =>
          have : l[d.length]? = some b := by rw [he]; simp
          rw [hb] at this
          injection this with this
          exact hr b r' rfl (by rw [← this]; exact hdig)
      · exact h
      · exfalso
        rcases k4 with k4 | k4 | ⟨c, k5, k6⟩
        · omega
        · have := congrArg List.length he
          rw [List.length_append] at this
          omega
        · have : d[K]? = some c := by rw [he, List.getElem?_append_left h] at k5; exact k5
          exact k6 (hd.2.2.2 c (List.mem_of_getElem? this))
    exact ⟨hK, by rw [he, ← hK]; simp⟩
  unfold F73_crossroadsref03_number
  rw [hl1]
  simp only
  by_cases h0 : K = 0
  · right
    have d0 : decide ((K : Int) = 0) = true := by simp; omega
    rw [d0]
    refine ⟨rfl, ?_⟩
    rintro ⟨d, r, he, hd, _, hr⟩
    have := (uniq d r he hd hr).1
    have := List.length_pos_iff.2 hd.1
    omega
  · have d0 : decide ((K : Int) = 0) = false := by simp; omega
    rw [d0]
    simp only [cond_false]
    have hlen : (l.take K).length = K := by rw [List.length_take]; omega
    have hne : l.take K ≠ [] := fun e => h0 (by rw [← hlen, e]; rfl)
    have hlpos : 0 < l.length := by omega
    obtain ⟨b, hb⟩ : ∃ b, l[0]? = some b := ⟨_, List.getElem?_eq_getElem hlpos⟩
    have hbt : (l.take K)[0]? = some b := by rw [List.getElem?_take, if_pos (by omega)]; exact hb
    have hat : strAt (bytesOf l) 0 = (b.toNat : Int) := by
      have := strAt_eq (s := bytesOf l) (i := 0) (b := b) (by rw [bytesOf_data]; exact hb)
      exact this
    have ds : decide ((0 : Int) < ((bytesOf l).size : Int)) = true := by simp; omega
    -- the good case
    have good : (1 < K → b ≠ 48) → valL (l.take K) ≤ most → ∃ d r, l = d ++ r ∧ NumOk d ∧ valL d ≤ most ∧ Ends r ∧ some ((valL (l.take K) : Int), (K : Int)) = some ((valL d : Int), (d.length : Int)) := by
      intro hb48 hvm
      have hh : 1 < (l.take K).length → (l.take K)[0]? ≠ some 48 := by
        intro h1
        rw [hbt]
        simpa using hb48 (by omega)
      have hK3 : K ≤ 3 := by
        apply Nat.le_of_not_lt
        intro h3
        have := valL_big 3 (l.take K) (by omega) k3 (hh (by omega))
        omega
      refine ⟨l.take K, l.drop K, (List.take_append_drop K l).symm, ⟨hne, by omega, hh, k3⟩, hvm, ?_, by rw [hlen]⟩
      intro c r' he
      rcases k4 with k4 | k4 | ⟨c', k5, k6⟩
      · omega
      · rw [k4, List.drop_length] at he; cases he
      · have : l[K]? = some c := by
          have := congrArg (fun q => q[0]?) he
          simpa using this
        rw [this] at k5
        injection k5 with k5
        rw [k5]; exact k6
    have bad : (1 < K ∧ b = 48) ∨ most < valL (l.take K) → ¬ ∃ d r, l = d ++ r ∧ NumOk d ∧ valL d ≤ most ∧ Ends r := by
      rintro hbad ⟨d, r, he, hd, hv, hr⟩
      obtain ⟨u1, u2⟩ := uniq d r he hd hr
      rcases hbad with ⟨h1, h2⟩ | h
      · have := hd.2.2.1 (by omega)
        rw [u2, hbt, h2] at this
        exact this rfl
      · rw [← u2] at h
        omega
    by_cases h1 : 1 < K
    · have d1 : decide ((1 : Int) < (K : Int)) = true := by simp; omega
      rw [d1, ds, hat]
      simp only [cond_true]
      by_cases hb48 : b = 48
      · have d2 : decide ((b.toNat : Int) = 48) = true := by rw [hb48]; rfl
        rw [d2]
        exact .inr ⟨rfl, bad (.inl ⟨h1, hb48⟩)⟩
      · have d2 : decide ((b.toNat : Int) = 48) = false := by
          simp only [decide_eq_false_iff_not]
          intro k
          apply hb48
          apply UInt8.toNat_inj.1
          have : b.toNat = 48 := by omega
          rw [this]; rfl
        rw [d2]
        simp only [cond_false]
        by_cases hv : valL (l.take K) ≤ most
        · have d3 : decide ((most : Int) < (valL (l.take K) : Int)) = false := by simp; omega
          rw [d3]
          exact .inl (good (fun _ => hb48) hv)
        · have d3 : decide ((most : Int) < (valL (l.take K) : Int)) = true := by simp; omega
          rw [d3]
          exact .inr ⟨rfl, bad (.inr (by omega))⟩
    · have d1 : decide ((1 : Int) < (K : Int)) = false := by simp; omega
      rw [d1]
      simp only [cond_false]
      by_cases hv : valL (l.take K) ≤ most
      · have d3 : decide ((most : Int) < (valL (l.take K) : Int)) = false := by simp; omega
        rw [d3]
        exact .inl (good (fun k => absurd k h1) hv)
      · have d3 : decide ((most : Int) < (valL (l.take K) : Int)) = true := by simp; omega
        rw [d3]
        exact .inr ⟨rfl, bad (.inr (by omega))⟩

/-- What stands behind each of an address's numbers. -/
def sepOf (i : Nat) : UInt8 := if i = 3 then 47 else 46

theorem ends_cons {c : UInt8} {r : List UInt8} (h : ¬ dig c) : Ends (c :: r) := by
  rintro b r' he
  injection he with he _
  rw [← he]; exact h
theorem ends_nil : Ends [] := by rintro b r' he; cases he

theorem sep_nd (i : Nat) : ¬ dig (sepOf i) := by
  unfold sepOf
  split
  · exact nd47
  · exact nd46

theorem ref_stage {l : List UInt8} {fuel i a : Nat} (hi : i < 4) (ha : a < 16777216) (hl : l.length < 4294967281) :
    (∃ d l', l = d ++ sepOf i :: l' ∧ Part d ∧ F47_crossroadsref03_Parse_l1 (fuel + 1) (bytesOf l) (a : Int) (i : Int) = F47_crossroadsref03_Parse_l1 fuel (bytesOf l') ((a * 256 + valL d : Nat) : Int) ((i + 1 : Nat) : Int)) ∨
    (F47_crossroadsref03_Parse_l1 (fuel + 1) (bytesOf l) (a : Int) (i : Int) = some (.error (⟨0, 0⟩, 3)) ∧ ¬ ∃ d l', l = d ++ sepOf i :: l' ∧ Part d) := by
  have hsz : (bytesOf l).size = l.length := bytesOf_size l
  rw [F47_crossroadsref03_Parse_l1]
  have d4 : decide ((i : Int) < 4) = true := by simp; omega
  have hw : IntKind.i64.wrap ((i : Int) + 1) = ((i + 1 : Nat) : Int) := by rw [wi64 (by omega) (by omega)]; omega
  rw [d4, hw]
  simp only [cond_true]
  have hc := refnum_cases (l := l) (most := 255) (by omega)
  rw [show (((255 : Nat) : Int)) = 255 from rfl] at hc
  rcases hc with ⟨d, r, he, hd, hv, hr, hF⟩ | ⟨hF, hno⟩
  · rw [hF]
    simp only
    have hpos := List.length_pos_iff.2 hd.1
    have hdl := hd.2.1
    have d0 : decide ((d.length : Int) = 0) = false := by simp; exact hd.1
    have hll := congrArg List.length he
    rw [List.length_append] at hll
    -- one and the same d
    have one : ∀ e l', l = e ++ sepOf i :: l' → Part e → ∃ r', r = sepOf i :: r' := by
      intro e l' h1 h2
      match r, he, hr with
      | [], he, hr =>
        exfalso
        rw [List.append_nil] at he
        rw [he] at h1
        have : sepOf i ∈ d := by rw [h1]; simp
        exact sep_nd i (hd.2.2.2 _ this)
      | c :: r', he, hr =>
        obtain ⟨_, h3, _⟩ := digits_end hd.2.2.2 h2.1.2.2.2 (hr c r' rfl) (sep_nd i) (he.symm.trans h1)
        exact ⟨r', by rw [h3]⟩
    by_cases hz : r = []
    · -- nothing stands behind
      right
      have dl : decide (((bytesOf l).size : Int) ≤ (d.length : Int)) = true := by
        rw [hz] at hll
        simp at hll
        simp; omega
      refine ⟨?_, ?_⟩
      · simp only [d0, dl, cond_true, cond_false]
        cases decide ((i : Int) = 3) <;> rfl
      · rintro ⟨e, l', h1, h2⟩
        obtain ⟨r', h3⟩ := one e l' h1 h2
        rw [hz] at h3
        cases h3
    · obtain ⟨c, r', rfl⟩ := List.exists_cons_of_ne_nil hz
      simp only [List.length_cons] at hll
      have dl : decide (((bytesOf l).size : Int) ≤ (d.length : Int)) = false := by simp; omega
      have dp : decide ((0 : Int) ≤ (d.length : Int)) = true := by simp
      have dq : decide ((d.length : Int) < ((bytesOf l).size : Int)) = true := by simp; omega
      have hat : strAt (bytesOf l) (d.length : Int) = (c.toNat : Int) := strAt_eq (by rw [bytesOf_data, he]; simp)
      have hw2 : IntKind.i64.wrap ((d.length : Int) + 1) = ((d.length + 1 : Nat) : Int) := by rw [wi64 (by omega) (by omega)]; omega
      have ds : decide ((0 : Int) ≤ ((d.length + 1 : Nat) : Int)) = true := by simp; omega
      have dt : decide (((d.length + 1 : Nat) : Int) ≤ ((bytesOf l).size : Int)) = true := by simp; omega
      have hex : (bytesOf l).extract (((d.length + 1 : Nat) : Int)).toNat (bytesOf l).size = bytesOf r' := by
        apply bytes_ext
        rw [Lib.extract_to_end, bytesOf_data, bytesOf_data, he, Int.toNat_natCast]
        simp
      have har : IntKind.u32.wrap ((IntKind.u32.wrap ((a : Int) * 256)) + (IntKind.u32.wrap (valL d : Int))) = ((a * 256 + valL d : Nat) : Int) := by
        rw [wu32 (x := (a : Int) * 256) (by omega) (by omega), wu32 (x := (valL d : Int)) (by omega) (by omega), wu32 (by omega) (by omega)]
        omega
      simp only [d0, dl, dp, dq, hat, hw2, ds, dt, hex, har, cond_true, cond_false]
      by_cases hcs : c = sepOf i
      · left
        refine ⟨d, r', by rw [he, hcs], ⟨hd, hv⟩, ?_⟩
        unfold sepOf at hcs
        by_cases h3 : i = 3
        · rw [if_pos h3] at hcs
          have e3 : decide ((i : Int) = 3) = true := by simp; omega
          have e47 : decide ((c.toNat : Int) = 47) = true := by rw [hcs]; rfl
          rw [e3, e47]
          simp only [cond_true]
        · rw [if_neg h3] at hcs
          have e3 : decide ((i : Int) = 3) = false := by simp; omega
          have e46 : decide ((c.toNat : Int) = 46) = true := by rw [hcs]; rfl
          rw [e3, e46]
          simp only [cond_true, cond_false]
      · right
        refine ⟨?_, ?_⟩
        · unfold sepOf at hcs
          by_cases h3 : i = 3
          · rw [if_pos h3] at hcs
            have e3 : decide ((i : Int) = 3) = true := by simp; omega
            have e47 : decide ((c.toNat : Int) = 47) = false := by
              simp only [decide_eq_false_iff_not]
              intro k
              apply hcs
              apply UInt8.toNat_inj.1
              have : c.toNat = 47 := by omega
              rw [this]; rfl
            rw [e3, e47]
            simp only [cond_true, cond_false]
          · rw [if_neg h3] at hcs
            have e3 : decide ((i : Int) = 3) = false := by simp; omega
            have e46 : decide ((c.toNat : Int) = 46) = false := by
              simp only [decide_eq_false_iff_not]
              intro k
              apply hcs
              apply UInt8.toNat_inj.1
              have : c.toNat = 46 := by omega
              rw [this]; rfl
            rw [e3, e46]
            simp only [cond_true, cond_false]
        · rintro ⟨e, l', h1, h2⟩
          obtain ⟨r'', h3⟩ := one e l' h1 h2
          injection h3 with h3 _
          exact hcs h3
  · right
    rw [hF]
    simp only
    refine ⟨?_, ?_⟩
    · simp only [decide_true, cond_true]
      cases decide ((i : Int) = 3) <;> rfl
    · rintro ⟨e, l', h1, h2⟩
      exact hno ⟨e, _, h1, h2.1, h2.2, ends_cons (sep_nd i)⟩

theorem ref_end {l : List UInt8} :
    (NumOk l ∧ valL l ≤ 32 ∧ F73_crossroadsref03_number (bytesOf l) 32 = some ((valL l : Int), (l.length : Int))) ∨
    (¬ (NumOk l ∧ valL l ≤ 32) ∧ ∃ n k : Nat, F73_crossroadsref03_number (bytesOf l) 32 = some ((n : Int), (k : Int)) ∧ (k = 0 ∨ k ≠ l.length)) := by
  have hc := refnum_cases (l := l) (most := 32) (by omega)
  rw [show (((32 : Nat) : Int)) = 32 from rfl] at hc
  rcases hc with ⟨d, r, he, hd, hv, hr, hF⟩ | ⟨hF, hno⟩
  · by_cases hz : r = []
    · left
      rw [hz, List.append_nil] at he
      subst he
      exact ⟨hd, hv, hF⟩
    · right
      have hll := congrArg List.length he
      rw [List.length_append] at hll
      have := List.length_pos_iff.2 hz
      refine ⟨?_, valL d, d.length, hF, .inr (by omega)⟩
      rintro ⟨h1, _⟩
      obtain ⟨c, r', rfl⟩ := List.exists_cons_of_ne_nil hz
      exact hr c r' rfl (h1.2.2.2 c (by rw [he]; simp))
  · right
    refine ⟨fun h => hno ⟨l, [], by simp, h.1, h.2, ends_nil⟩, 0, 0, hF, .inl rfl⟩

theorem ref_cases {l : List UInt8} (hl : l.length < 4294967281) :
    (∃ d0 d1 d2 d3 t, Dec l d0 d1 d2 d3 t ∧ F47_crossroadsref03_Parse (bytesOf l) = some (resOf ⟨(A4 d0 d1 d2 d3 : Int), (valL t : Int)⟩)) ∨
    (F47_crossroadsref03_Parse (bytesOf l) = some (⟨0, 0⟩, 3) ∧ ¬ ∃ d0 d1 d2 d3 t, Dec l d0 d1 d2 d3 t) := by
  unfold F47_crossroadsref03_Parse
  have s0 := ref_stage (l := l) (fuel := 99) (i := 0) (a := 0) (by omega) (by omega) hl
  rw [show (((0 : Nat) : Int)) = 0 from rfl] at s0
  rcases s0 with ⟨d0, l1, e0, p0, s0⟩ | ⟨s0, n0⟩
  · have v0 := p0.2
    have L0 := congrArg List.length e0
    simp only [List.length_append, List.length_cons] at L0
    rw [s0]
    rcases ref_stage (l := l1) (fuel := 98) (i := 1) (a := 0 * 256 + valL d0) (by omega) (by omega) (by omega) with ⟨d1, l2, e1, p1, s1⟩ | ⟨s1, n1⟩
    · have v1 := p1.2
      have L1 := congrArg List.length e1
      simp only [List.length_append, List.length_cons] at L1
      rw [s1]
      rcases ref_stage (l := l2) (fuel := 97) (i := 2) (a := (0 * 256 + valL d0) * 256 + valL d1) (by omega) (by omega) (by omega) with ⟨d2, l3, e2, p2, s2⟩ | ⟨s2, n2⟩
      · have v2 := p2.2
        have L2 := congrArg List.length e2
        simp only [List.length_append, List.length_cons] at L2
        rw [s2]
        rcases ref_stage (l := l3) (fuel := 96) (i := 3) (a := ((0 * 256 + valL d0) * 256 + valL d1) * 256 + valL d2) (by omega) (by omega) (by omega) with ⟨d3, t, e3, p3, s3⟩ | ⟨s3, n3⟩
        · rw [s3, F47_crossroadsref03_Parse_l1]
          have d4 : decide (((3 + 1 : Nat) : Int) < 4) = false := by decide
          rw [d4]
          simp only [cond_false]
          have hA : (((0 * 256 + valL d0) * 256 + valL d1) * 256 + valL d2) * 256 + valL d3 = A4 d0 d1 d2 d3 := by unfold A4; omega
          rw [hA]
          have heq : l = d0 ++ 46 :: (d1 ++ 46 :: (d2 ++ 46 :: (d3 ++ 47 :: t))) := by rw [e0, e1, e2, e3]; rfl
          rcases ref_end (l := t) with ⟨g1, g2, g3⟩ | ⟨g1, n, k, g3, g4⟩
          · left
            refine ⟨d0, d1, d2, d3, t, ⟨heq, p0, p1, p2, p3, g1, g2⟩, ?_⟩
            rw [g3]
            simp only
            have f0 : decide ((t.length : Int) = 0) = false := by simp; exact g1.1
            have f1 : decide ((t.length : Int) = ((bytesOf t).size : Int)) = true := by rw [bytesOf_size]; simp
            rw [f0, f1]
            simp only [cond_true, cond_false]
            have hK : InK .u32 (⟨(A4 d0 d1 d2 d3 : Int), (valL t : Int)⟩ : TPrefix).A := inK32 (A4_lt p0 p1 p2 p3)
            rw [← may_same hK]
            unfold resOf
            cases F37_addr_May ⟨(A4 d0 d1 d2 d3 : Int), (valL t : Int)⟩ <;> rfl
          · right
            refine ⟨?_, ?_⟩
            · rw [g3]
              simp only
              rcases g4 with g4 | g4
              · have f0 : decide ((k : Int) = 0) = true := by simp; omega
                rw [f0]; rfl
              · by_cases hk : k = 0
                · have f0 : decide ((k : Int) = 0) = true := by simp; omega
                  rw [f0]; rfl
                · have f0 : decide ((k : Int) = 0) = false := by simp; omega
                  have f1 : decide ((k : Int) = ((bytesOf t).size : Int)) = false := by rw [bytesOf_size]; simp; omega
                  rw [f0, f1]; rfl
            · rintro ⟨q0, q1, q2, q3, u, h⟩
              obtain ⟨w0, _, w1⟩ := digits_end p0.1.2.2.2 h.p0.1.2.2.2 nd46 nd46 (heq.symm.trans h.eq)
              obtain ⟨w2, _, w3⟩ := digits_end p1.1.2.2.2 h.p1.1.2.2.2 nd46 nd46 w1
              obtain ⟨w4, _, w5⟩ := digits_end p2.1.2.2.2 h.p2.1.2.2.2 nd46 nd46 w3
              obtain ⟨w6, _, w7⟩ := digits_end p3.1.2.2.2 h.p3.1.2.2.2 nd47 nd47 w5
              exact g1 (by rw [w7]; exact ⟨h.nt, h.vt⟩)
        · right
          rw [s3]
          refine ⟨rfl, ?_⟩
          rintro ⟨q0, q1, q2, q3, u, h⟩
          have heq : l = d0 ++ 46 :: (d1 ++ 46 :: (d2 ++ 46 :: l3)) := by rw [e0, e1, e2]; rfl
          obtain ⟨w0, _, w1⟩ := digits_end p0.1.2.2.2 h.p0.1.2.2.2 nd46 nd46 (heq.symm.trans h.eq)
          obtain ⟨w2, _, w3⟩ := digits_end p1.1.2.2.2 h.p1.1.2.2.2 nd46 nd46 w1
          obtain ⟨w4, _, w5⟩ := digits_end p2.1.2.2.2 h.p2.1.2.2.2 nd46 nd46 w3
          exact n3 ⟨q3, u, w5, h.p3⟩
      · right
        rw [s2]
        refine ⟨rfl, ?_⟩
        rintro ⟨q0, q1, q2, q3, u, h⟩
        have heq : l = d0 ++ 46 :: (d1 ++ 46 :: l2) := by rw [e0, e1]; rfl
        obtain ⟨w0, _, w1⟩ := digits_end p0.1.2.2.2 h.p0.1.2.2.2 nd46 nd46 (heq.symm.trans h.eq)
        obtain ⟨w2, _, w3⟩ := digits_end p1.1.2.2.2 h.p1.1.2.2.2 nd46 nd46 w1
        exact n2 ⟨q2, _, w3, h.p2⟩
    · right
      rw [s1]
      refine ⟨rfl, ?_⟩
      rintro ⟨q0, q1, q2, q3, u, h⟩
      have heq : l = d0 ++ 46 :: l1 := by rw [e0]; rfl
      obtain ⟨w0, _, w1⟩ := digits_end p0.1.2.2.2 h.p0.1.2.2.2 nd46 nd46 (heq.symm.trans h.eq)
      exact n1 ⟨q1, _, w1, h.p1⟩
  · right
    rw [s0]
    refine ⟨rfl, ?_⟩
    rintro ⟨q0, q1, q2, q3, u, h⟩
    exact n0 ⟨q0, _, h.eq, h.p0⟩

theorem parse_same {s : ByteArray} (hs : s.size < 4294967281) : F47_crossroadsref03_Parse s = F32_addr_Parse s := by
  have hc := ref_cases (l := s.data.toList) (by rw [← Lib.size_eq]; exact hs)
  rw [bytesOf_self] at hc
  rcases hc with ⟨d0, d1, d2, d3, t, hd, hF⟩ | ⟨hF, hno⟩
  · rw [hF, prog_dec hs hd]
  · rw [hF, prog_no hs hno]

theorem oct_A4 {d0 d1 d2 d3 : List UInt8} (h0 : Part d0) (h1 : Part d1) (h2 : Part d2) (h3 : Part d3) :
    oct (A4 d0 d1 d2 d3) 0 = valL d0 ∧ oct (A4 d0 d1 d2 d3) 1 = valL d1 ∧ oct (A4 d0 d1 d2 d3) 2 = valL d2 ∧ oct (A4 d0 d1 d2 d3) 3 = valL d3 := by
  have := h0.2
  have := h1.2
  have := h2.2
  have := h3.2
  unfold oct A4
  refine ⟨?_, ?_, ?_, ?_⟩ <;> simp only [Nat.mul_zero, Nat.sub_zero, Nat.reduceMul, Nat.reduceSub, Nat.reducePow, Nat.div_one] <;> omega

theorem dec_text {l d0 d1 d2 d3 t : List UInt8} (h : Dec l d0 d1 d2 d3 t) : textL (A4 d0 d1 d2 d3) (valL t : Int) = l := by
  obtain ⟨o0, o1, o2, o3⟩ := oct_A4 h.p0 h.p1 h.p2 h.p3
  unfold textL adrL
  rw [o0, o1, o2, o3, wr_nat, digs_numOk h.p0.1, digs_numOk h.p1.1, digs_numOk h.p2.1, digs_numOk h.p3.1, digs_numOk h.nt, h.eq]
  simp

theorem textL_not47 (a : Nat) : (47 : UInt8) ∉ adrL a := by
  have n0 := (no46 (numOk_digs (Nat.lt_trans (oct_lt a 0) (by decide))).1.2.2.2).2
  have n1 := (no46 (numOk_digs (Nat.lt_trans (oct_lt a 1) (by decide))).1.2.2.2).2
  have n2 := (no46 (numOk_digs (Nat.lt_trans (oct_lt a 2) (by decide))).1.2.2.2).2
  have n3 := (no46 (numOk_digs (Nat.lt_trans (oct_lt a 3) (by decide))).1.2.2.2).2
  unfold adrL
  simp only [List.mem_append, List.mem_cons, List.mem_nil_iff, or_false, not_or]
  exact ⟨⟨⟨⟨⟨⟨n0, by decide⟩, n1⟩, by decide⟩, n2⟩, by decide⟩, n3⟩

theorem part_oct (a i : Nat) : Part (digs (oct a i)) := by
  obtain ⟨h1, h2⟩ := numOk_digs (Nat.lt_trans (oct_lt a i) (by decide))
  exact ⟨h1, by rw [h2]; have := oct_lt a i; omega⟩

theorem A4_oct {a : Nat} (ha : a < 4294967296) : A4 (digs (oct a 0)) (digs (oct a 1)) (digs (oct a 2)) (digs (oct a 3)) = a := by
  unfold A4
  rw [(numOk_digs (Nat.lt_trans (oct_lt a 0) (by decide))).2, (numOk_digs (Nat.lt_trans (oct_lt a 1) (by decide))).2, (numOk_digs (Nat.lt_trans (oct_lt a 2) (by decide))).2, (numOk_digs (Nat.lt_trans (oct_lt a 3) (by decide))).2]
  unfold oct
  simp only [Nat.mul_zero, Nat.sub_zero, Nat.reduceMul, Nat.reduceSub, Nat.reducePow, Nat.div_one]
  omega

theorem textL_dec {a n : Nat} (hn : n ≤ 32) : Dec (textL a (n : Int)) (digs (oct a 0)) (digs (oct a 1)) (digs (oct a 2)) (digs (oct a 3)) (digs n) := by
  obtain ⟨h1, h2⟩ := numOk_digs (u := n) (by omega)
  refine ⟨?_, part_oct a 0, part_oct a 1, part_oct a 2, part_oct a 3, h1, by omega⟩
  unfold textL adrL
  rw [wr_nat]
  simp

theorem wr_no {n : Int} (h : InK .i64 n) (hn : ¬ (0 ≤ n ∧ n ≤ 32)) : ¬ (NumOk (wr n) ∧ valL (wr n) ≤ 32) := by
  rintro ⟨h1, h2⟩
  by_cases h0 : 0 ≤ n
  · obtain ⟨u, rfl⟩ : ∃ u : Nat, n = (u : Int) := ⟨n.toNat, by omega⟩
    rw [wr_nat] at h2
    obtain ⟨_, e1⟩ := h
    have e3 : IntKind.i64.max = 9223372036854775807 := by decide
    rw [e3] at e1
    have := (digs_can 19 u (by omega)).2.1
    rw [this] at h2
    omega
  · have : (45 : UInt8) ∈ wr n := by
      unfold wr Lib.itoa
      rw [if_pos (by omega)]
      simp
    have := (h1.2.2.2 _ this).1
    simp at this

theorem text_back {p : TPrefix} {a : Nat} (hA : p.A = a) (ha : a < 4294967296) (hN : InK .i64 p.N) : ∃ q e, F32_addr_Parse (bytesOf (textL a p.N)) = some (q, e) ∧ (F37_addr_May p = true → e = 0 ∧ q = p) ∧ (F37_addr_May p = false → e ≠ 0) := by
  have hadr := adrL_length a
  have hwr := wr_length hN
  have hsz : (bytesOf (textL a p.N)).size < 4294967281 := by
    rw [bytesOf_size]
    unfold textL
    simp only [List.length_append, List.length_singleton]
    omega
  by_cases hn : 0 ≤ p.N ∧ p.N ≤ 32
  · obtain ⟨n, hn'⟩ : ∃ n : Nat, p.N = (n : Int) := ⟨p.N.toNat, by omega⟩
    have hd := textL_dec (a := a) (n := n) (by omega)
    rw [← hn', ← bytesOf_data (textL a p.N)] at hd
    rw [prog_dec hsz hd, A4_oct ha, (numOk_digs (u := n) (by omega)).2]
    have hp : (⟨(a : Int), (n : Int)⟩ : TPrefix) = p := by
      obtain ⟨A, N⟩ := p
      simp only at hA hn'
      rw [hA, hn']
    rw [hp]
    unfold resOf
    cases hm : F37_addr_May p with
    | true => exact ⟨_, _, by rw [if_pos rfl], fun _ => ⟨rfl, rfl⟩, fun h => by cases h⟩
    | false => exact ⟨_, _, by rw [if_neg (by simp)], fun h => by (cases h), fun _ => by decide⟩
  · have hno : ¬ ∃ d0 d1 d2 d3 t, Dec (bytesOf (textL a p.N)).data.toList d0 d1 d2 d3 t := by
      rintro ⟨d0, d1, d2, d3, t, h⟩
      rw [bytesOf_data] at h
      have he := h.eq
      rw [dec_head] at he
      have c1 := cut_at (y := t) (not47 h.p0 h.p1 h.p2 h.p3)
      have c2 := cut_at (y := wr p.N) (textL_not47 a)
      rw [← he] at c1
      have e2 : textL a p.N = adrL a ++ 47 :: wr p.N := by unfold textL; simp
      rw [← e2] at c2
      rw [c1] at c2
      injection c2 with _ c2
      injection c2 with c2 _
      exact wr_no hN hn (by rw [← c2]; exact ⟨h.nt, h.vt⟩)
    rw [prog_no hsz hno]
    refine ⟨_, _, rfl, fun hm => ?_, fun _ => by decide⟩
    exfalso
    have hK : InK .u32 p.A := by rw [hA]; exact inK32 ha
    obtain ⟨b, n, hv⟩ := (may_V hK).1 hm
    have h1 := hv.hN
    have h2 := hv.le
    omega

theorem alive_true : F11_crossroadslaw07_alive = some true := by kernel_rfl

theorem getI_nat {α : Type} {L : List α} {i : Nat} {x : α} (h : L[i]? = some x) : getI L (i : Int) = some x := by
  unfold getI
  rw [if_pos (by omega)]
  simpa using h

theorem rows_l1 : ∀ (l out : List TRule), out.length + l.length < 1099511627776 → F19_crossroadslaw07_rows_l1 out l = some (out ++ l)
  | [], out, _ => by rw [F19_crossroadslaw07_rows_l1, List.append_nil]
  | x :: l, out, h => by
    rw [F19_crossroadslaw07_rows_l1]
    simp only [List.length_cons] at h
    have d : decide (out.length < 1099511627776) = true := by simp; omega
    simp only [F13_crossroadslaw07_plain, d, cond_true]
    rw [rows_l1 l _ (by simp; omega)]
    simp

theorem rows_eq {l : List TRule} (h : l.length < 1099511627776) : F19_crossroadslaw07_rows l = some l := by
  unfold F19_crossroadslaw07_rows
  rw [rows_l1 l [] (by simpa using h)]
  simp

theorem rmay_same {x : TRule} (h : InK .u32 x.P.A) : F10_plist_May x = F12_crossroadsref07_May x := by
  unfold F10_plist_May F12_crossroadsref07_May
  rw [may_same h]
  by_cases h1 : x.Seq < 1
  · simp [h1]
  · by_cases h2 : 65535 < x.Seq
    · simp [h1, h2]
    · simp only [h1, h2, decide_false, cond_false]
      cases F38_crossroadsref03_May x.P with
      | false => simp
      | true =>
        simp only [Bool.true_and]
        unfold max_
        by_cases h3 : x.Ge = 0
        · simp only [h3, decide_true, cond_true]
          by_cases h4 : x.Le = 0
          · simp [h4]
          · simp only [h4, decide_false, Bool.false_or]
            by_cases h5 : (0 : Int) < x.P.N
            · simp only [h5, if_true]
              rw [Bool.eq_iff_iff]
              simp
              omega
            · simp only [h5, if_false]
              rw [Bool.eq_iff_iff]
              simp
              omega
        · simp only [h3, decide_false, cond_false]
          by_cases h4 : x.Ge ≤ x.P.N
          · have h5 : ¬ x.P.N < x.Ge := by omega
            simp [h4, h5]
          · have h5 : x.P.N < x.Ge := by omega
            have h6 : ¬ x.Ge < x.P.N := by omega
            simp only [h4, h5, h6, decide_true, decide_false, Bool.true_and, cond_false, if_false]
            by_cases h7 : x.Le = 0
            · simp only [h7, decide_true, cond_true, Bool.true_or]
              by_cases h8 : 32 < x.Ge
              · have : ¬ x.Ge ≤ 32 := by omega
                simp [h8, this]
              · have : x.Ge ≤ 32 := by omega
                simp [h8, this]
            · simp only [h7, decide_false, cond_false, Bool.false_or]
              by_cases h8 : 32 < x.Ge
              · have : ¬ x.Ge ≤ 32 := by omega
                simp [h8, this]
              · have : x.Ge ≤ 32 := by omega
                simp only [h8, this, decide_false, decide_true, Bool.true_and, cond_false]
                rw [Bool.eq_iff_iff]
                simp
                omega

theorem bounds_same (x : TRule) : F39_plist_Rule_bounds x = F41_crossroadsref07_Bounds x := rfl

theorem means_same {x : TRule} {q : TPrefix} (h : InK .u32 x.P.A) (hq : InK .u32 q.A) : F14_plist_Means x q = F15_crossroadsref07_Means x q := by
  unfold F14_plist_Means F15_crossroadsref07_Means
  rw [bounds_same, rmay_same h, covers_same h hq]

/-- A rule that may be: its number. -/
theorem rmay_seq {x : TRule} (h : F10_plist_May x = true) : 1 ≤ x.Seq ∧ x.Seq ≤ 65535 ∧ F37_addr_May x.P = true := by
  unfold F10_plist_May at h
  by_cases h1 : x.Seq < 1
  · simp [h1] at h
  · by_cases h2 : 65535 < x.Seq
    · simp [h1, h2] at h
    · simp only [h1, h2, decide_false, cond_false, Bool.and_eq_true] at h
      exact ⟨by omega, by omega, h.1⟩

/-! ### Lists that may be -/

structure LOk (l : List TRule) : Prop where
  may : ∀ x ∈ l, F10_plist_May x = true
  srt : l.Pairwise fun a b => a.Seq < b.Seq
  u32 : ∀ x ∈ l, InK .u32 x.P.A

theorem mayAll_l1 {l : List TRule} : ∀ (rest pre : List TRule), l = pre ++ rest → F18_crossroadsref07_MayAll_l1 l pre.length rest = .ok () → (∀ x ∈ rest, F12_crossroadsref07_May x = true) ∧ (∀ (k : Nat) (a b : TRule), pre.length ≤ k + 1 → l[k]? = some a → l[k + 1]? = some b → a.Seq < b.Seq)
  | [], pre, he, _ => by
    refine ⟨fun x hx => (by cases hx), fun k a b hk ha hb => ?_⟩
    have := (List.getElem?_eq_some_iff.1 hb).1
    rw [he] at this
    simp at this
    omega
  | x :: rest, pre, he, h => by
    rw [F18_crossroadsref07_MayAll_l1] at h
    cases hm : F12_crossroadsref07_May x with
    | false => simp [hm] at h
    | true =>
      simp only [hm, cond_true] at h
      have hx : l[pre.length]? = some x := by rw [he]; simp
      have he' : l = (pre ++ [x]) ++ rest := by rw [he]; simp
      have hlen : (pre ++ [x]).length = pre.length + 1 := by simp
      by_cases h0 : pre.length = 0
      · have d : decide (0 < (pre.length : Int)) = false := by simp only [decide_eq_false_iff_not]; omega
        rw [d] at h
        simp only [cond_false] at h
        rw [← hlen] at h
        obtain ⟨k1, k2⟩ := mayAll_l1 rest (pre ++ [x]) he' h
        refine ⟨fun y hy => ?_, fun k a b hk ha hb => k2 k a b (by rw [hlen]; omega) ha hb⟩
        rcases List.mem_cons.1 hy with rfl | hy
        · exact hm
        · exact k1 y hy
      · have d : decide (0 < (pre.length : Int)) = true := by simp; omega
        rw [d] at h
        simp only [cond_true] at h
        by_cases hle : x.Seq ≤ (l.getD (pre.length - 1) default).Seq
        · have : decide (x.Seq ≤ (l.getD (pre.length - 1) default).Seq) = true := by simpa using hle
          rw [this] at h
          simp at h
        · have : decide (x.Seq ≤ (l.getD (pre.length - 1) default).Seq) = false := by simpa using hle
          rw [this] at h
          simp only [cond_false] at h
          rw [← hlen] at h
          obtain ⟨k1, k2⟩ := mayAll_l1 rest (pre ++ [x]) he' h
          refine ⟨fun y hy => ?_, fun k a b hk ha hb => ?_⟩
          · rcases List.mem_cons.1 hy with rfl | hy
            · exact hm
            · exact k1 y hy
          · by_cases hk2 : k + 1 = pre.length
            · have e : k = pre.length - 1 := by omega
              rw [hk2, hx] at hb
              injection hb with hb
              subst hb
              have hg : l.getD (pre.length - 1) default = a := by
                rw [← e]
                simp [List.getD, ha]
              rw [hg] at hle
              omega
            · exact k2 k a b (by rw [hlen]; omega) ha hb

theorem pairwise_adj {l : List TRule} (h : ∀ (k : Nat) (a b : TRule), l[k]? = some a → l[k + 1]? = some b → a.Seq < b.Seq) : l.Pairwise fun a b => a.Seq < b.Seq := by
  rw [List.pairwise_iff_getElem]
  intro i j hi hj hij
  have key : ∀ d i (hi : i < l.length) (hj : i + d + 1 < l.length), l[i].Seq < l[i + d + 1].Seq := by
    intro d
    induction d with
    | zero => intro i hi hj; exact h i _ _ (List.getElem?_eq_getElem hi) (List.getElem?_eq_getElem hj)
    | succ d ih =>
      intro i hi hj
      have h1 := ih i hi (by omega)
      have h2 := h (i + d + 1) _ _ (List.getElem?_eq_getElem (by omega)) (List.getElem?_eq_getElem (by omega : i + d + 1 + 1 < l.length))
      exact Int.lt_trans h1 h2
  have := key (j - i - 1) i hi (by omega)
  have e : i + (j - i - 1) + 1 = j := by omega
  simpa only [e] using this

theorem mayAll_ok {l : List TRule} (hu : ∀ x ∈ l, InK .u32 x.P.A) (h : F18_crossroadsref07_MayAll l = true) : LOk l := by
  unfold F18_crossroadsref07_MayAll at h
  have h2 : F18_crossroadsref07_MayAll_l1 l 0 l = .ok () := by
    have key : ∀ (rest : List TRule) (i : Nat), F18_crossroadsref07_MayAll_l1 l i rest = .ok () ∨ F18_crossroadsref07_MayAll_l1 l i rest = .error false := by
      intro rest
      induction rest with
      | nil => intro i; exact .inl rfl
      | cons x rest ih =>
        intro i
        rw [F18_crossroadsref07_MayAll_l1]
        cases F12_crossroadsref07_May x
        · exact .inr rfl
        · simp only [cond_true]
          cases decide (0 < (i : Int))
          · simp only [cond_false]; exact ih _
          · simp only [cond_true]
            cases decide (x.Seq ≤ (l.getD (i - 1) default).Seq)
            · simp only [cond_false]; exact ih _
            · exact .inr rfl
    rcases key l 0 with k | k
    · exact k
    · rw [k] at h; cases h
  obtain ⟨k1, k2⟩ := mayAll_l1 l [] rfl h2
  exact ⟨fun x hx => by rw [rmay_same (hu x hx)]; exact k1 x hx, pairwise_adj fun k a b ha hb => k2 k a b (by simp) ha hb, hu⟩

/-! ### The first that fits -/

theorem idx51_l1 (f : TRule → Bool) : ∀ (l : List TRule) (i : Nat), (∃ pre x r, l = pre ++ x :: r ∧ f x = true ∧ (∀ y ∈ pre, f y = false) ∧ F51_slices_IndexFunc_l1 f i l = .error ((i + pre.length : Nat) : Int)) ∨ ((∀ y ∈ l, f y = false) ∧ F51_slices_IndexFunc_l1 f i l = .ok ())
  | [], i => .inr ⟨fun y hy => (by cases hy), rfl⟩
  | x :: l, i => by
    rw [F51_slices_IndexFunc_l1]
    cases hx : f x with
    | true => exact .inl ⟨[], x, l, rfl, hx, fun y hy => (by cases hy), by simp⟩
    | false =>
      simp only [cond_false]
      rcases idx51_l1 f l (i + 1) with ⟨pre, y, r, e, h1, h2, h3⟩ | ⟨h1, h2⟩
      · refine .inl ⟨x :: pre, y, r, by rw [e]; rfl, h1, fun z hz => ?_, ?_⟩
        · rcases List.mem_cons.1 hz with rfl | hz
          · exact hx
          · exact h2 z hz
        · rw [h3]
          simp only [List.length_cons]
          rw [show i + 1 + pre.length = i + (pre.length + 1) by omega]
      · refine .inr ⟨fun z hz => ?_, h2⟩
        rcases List.mem_cons.1 hz with rfl | hz
        · exact hx
        · exact h1 z hz

theorem idx51 (f : TRule → Bool) (l : List TRule) : (∃ pre x r, l = pre ++ x :: r ∧ f x = true ∧ (∀ y ∈ pre, f y = false) ∧ F51_slices_IndexFunc l f = (pre.length : Int)) ∨ ((∀ y ∈ l, f y = false) ∧ F51_slices_IndexFunc l f = -1) := by
  unfold F51_slices_IndexFunc
  rcases idx51_l1 f l 0 with ⟨pre, x, r, e, h1, h2, h3⟩ | ⟨h1, h2⟩
  · exact .inl ⟨pre, x, r, e, h1, h2, by rw [h3]; simp⟩
  · exact .inr ⟨h1, by rw [h2]⟩

theorem has48 (f : TRule → Bool) (l : List TRule) : F48_slices_ContainsFunc l f = l.any f := by
  unfold F48_slices_ContainsFunc
  rcases idx51 f l with ⟨pre, x, r, e, h1, h2, h3⟩ | ⟨h1, h2⟩
  · rw [h3, e]
    simp [h1]
  · rw [h2]
    simp
    exact h1

def dropW (l : List TRule) (s : Int) : List TRule × Int := if l.any (fun x => decide (x.Seq = s)) = true then (l.filter (fun x => decide (x.Seq ≠ s)), 0) else ([], 6)

theorem srt_mid {pre r : List TRule} {x : TRule} (h : (pre ++ x :: r).Pairwise fun a b => a.Seq < b.Seq) : (∀ y ∈ pre, y.Seq < x.Seq) ∧ (∀ y ∈ r, x.Seq < y.Seq) := by
  rw [List.pairwise_append] at h
  obtain ⟨_, h2, h3⟩ := h
  rw [List.pairwise_cons] at h2
  exact ⟨fun y hy => h3 y hy x List.mem_cons_self, h2.1⟩

theorem filter_ne {pre r : List TRule} {x : TRule} (h : (pre ++ x :: r).Pairwise fun a b => a.Seq < b.Seq) : (pre ++ x :: r).filter (fun y => decide (y.Seq ≠ x.Seq)) = pre ++ r := by
  obtain ⟨h1, h2⟩ := srt_mid h
  rw [List.filter_append, List.filter_cons]
  have e1 : pre.filter (fun y => decide (y.Seq ≠ x.Seq)) = pre := List.filter_eq_self.2 fun y hy => by have := h1 y hy; simp; omega
  have e2 : r.filter (fun y => decide (y.Seq ≠ x.Seq)) = r := List.filter_eq_self.2 fun y hy => by have := h2 y hy; simp; omega
  rw [e1, e2]
  simp

theorem drop_eq {l : List TRule} (hl : l.length < 1099511627776) (hs : l.Pairwise fun a b => a.Seq < b.Seq) (s : Int) : F21_plist_Drop l s = some (dropW l s) := by
  unfold F21_plist_Drop dropW
  rcases idx51 (fun y0 => F52_plist_Drop_1 y0 s) l with ⟨pre, x, r, e, h1, h2, h3⟩ | ⟨h1, h2⟩
  · have hx : x.Seq = s := by simpa [F52_plist_Drop_1] using h1
    have hlen : l.length = pre.length + (r.length + 1) := by rw [e]; simp
    rw [h3]
    have hw : IntKind.i64.wrap ((pre.length : Int) + 1) = ((pre.length + 1 : Nat) : Int) := by rw [wi64 (by omega) (by omega)]; omega
    have d0 : decide ((pre.length : Int) < 0) = false := by simp
    have d1 : decide (l.length < 1099511627776) = true := by simpa using hl
    have d2 : decide ((0 : Int) ≤ (pre.length : Int)) = true := by simp
    have d3 : decide ((pre.length : Int) ≤ ((pre.length + 1 : Nat) : Int)) = true := by simp; omega
    have d4 : decide (((pre.length + 1 : Nat) : Int) ≤ (l.length : Int)) = true := by simp; omega
    simp only [hw, d0, d1, d2, d3, d4, cond_true, cond_false]
    have ha : l.any (fun x => decide (x.Seq = s)) = true := List.any_eq_true.2 ⟨x, by rw [e]; simp, by simpa using hx⟩
    rw [if_pos ha]
    congr 2
    rw [← hx]
    subst e
    rw [filter_ne hs]
    unfold del_
    simp
  · rw [h2]
    have ha : ¬ l.any (fun x => decide (x.Seq = s)) = true := by
      intro k
      obtain ⟨x, hx, hk⟩ := List.any_eq_true.1 k
      have := h1 x hx
      simp [F52_plist_Drop_1] at this
      simp at hk
      exact this hk
    rw [if_neg ha]
    rfl

theorem refDrop_l1 (s : Int) : ∀ (l out : List TRule), out.length + l.length < 1099511627776 → F26_crossroadsref07_Drop_l1 s out l = some (out ++ l.filter fun x => decide (x.Seq ≠ s))
  | [], out, _ => by rw [F26_crossroadsref07_Drop_l1]; simp
  | x :: l, out, h => by
    rw [F26_crossroadsref07_Drop_l1]
    simp only [List.length_cons] at h
    by_cases hx : x.Seq = s
    · have : decide (x.Seq = s) = true := by simpa using hx
      rw [this]
      simp only [cond_true]
      rw [refDrop_l1 s l out (by omega), List.filter_cons]
      simp [hx]
    · have : decide (x.Seq = s) = false := by simpa using hx
      have d : decide (out.length < 1099511627776) = true := by simp; omega
      rw [this, d]
      simp only [cond_true, cond_false]
      rw [refDrop_l1 s l _ (by simp; omega), List.filter_cons]
      simp [hx]

theorem refDrop_eq {l : List TRule} (hl : l.length < 1099511627776) (s : Int) : F26_crossroadsref07_Drop l s = some (dropW l s) := by
  unfold F26_crossroadsref07_Drop dropW
  rw [refDrop_l1 s l [] (by simpa using hl)]
  simp only [List.nil_append]
  by_cases ha : l.any (fun x => decide (x.Seq = s)) = true
  · rw [if_pos ha]
    have : decide (((l.filter fun x => decide (x.Seq ≠ s)).length : Int) = (l.length : Int)) = false := by
      simp only [decide_eq_false_iff_not]
      intro k
      have k : (l.filter fun x => decide (x.Seq ≠ s)).length = l.length := by omega
      obtain ⟨x, hx, hk⟩ := List.any_eq_true.1 ha
      have := List.length_filter_eq_length_iff.1 k x hx
      simp at this hk
      exact this hk
    rw [this]
    rfl
  · rw [if_neg ha]
    have : decide (((l.filter fun x => decide (x.Seq ≠ s)).length : Int) = (l.length : Int)) = true := by
      simp only [decide_eq_true_eq]
      have : (l.filter fun x => decide (x.Seq ≠ s)).length = l.length := List.length_filter_eq_length_iff.2 fun x hx => by
        simp
        intro k
        exact ha (List.any_eq_true.2 ⟨x, hx, by simpa using k⟩)
      omega
    rw [this]
    rfl

def evalW (l : List TRule) (q : TPrefix) : Bool × Int := match l.find? fun x => F14_plist_Means x q with
  | some x => (x.Permit, x.Seq)
  | none => (false, 0)

theorem eval_eq (l : List TRule) (q : TPrefix) : F22_plist_Eval l q = some (evalW l q) := by
  unfold F22_plist_Eval evalW
  rcases idx51 (fun y0 => F55_plist_Eval_1 y0 q) l with ⟨pre, x, r, e, h1, h2, h3⟩ | ⟨h1, h2⟩
  · have hf : l.find? (fun x => F14_plist_Means x q) = some x := by
      rw [e, List.find?_append, List.find?_eq_none.2 (fun y hy => by have := h2 y hy; simp only [F55_plist_Eval_1] at this; simp [this])]
      simp only [F55_plist_Eval_1] at h1
      simp [h1]
    rw [h3, hf]
    have d0 : decide ((pre.length : Int) < 0) = false := by simp
    simp only [d0, cond_false]
    rw [getI_nat (x := x) (by rw [e]; simp)]
  · have hf : l.find? (fun x => F14_plist_Means x q) = none := List.find?_eq_none.2 fun y hy => by have := h1 y hy; simp only [F55_plist_Eval_1] at this; simp [this]
    rw [h2, hf]
    rfl

theorem refEval_eq {l : List TRule} {q : TPrefix} (hu : ∀ x ∈ l, InK .u32 x.P.A) (hq : InK .u32 q.A) : F27_crossroadsref07_Eval l q = evalW l q := by
  unfold F27_crossroadsref07_Eval evalW
  have : ∀ l : List TRule, (∀ x ∈ l, InK .u32 x.P.A) → F27_crossroadsref07_Eval_l1 q l = match l.find? (fun x => F14_plist_Means x q) with
      | some x => .error (x.Permit, x.Seq)
      | none => .ok () := by
    intro l
    induction l with
    | nil => intro _; rfl
    | cons x l ih =>
      intro hu
      rw [F27_crossroadsref07_Eval_l1, ← means_same (hu x List.mem_cons_self) hq, ih fun y hy => hu y (List.mem_cons_of_mem _ hy), List.find?_cons]
      cases F14_plist_Means x q <;> rfl
  rw [this l hu]
  cases l.find? (fun x => F14_plist_Means x q) <;> rfl

/-- The middle of two places. -/
theorem mid_eq {i j : Int} (h0 : 0 ≤ i) (h1 : i ≤ j) (h2 : j ≤ 9223372036854775807) : IntKind.i64.wrap (Int.fdiv (IntKind.u64.wrap (IntKind.i64.wrap (i + j))) (2 ^ 1)) = (i + j) / 2 := by
  have e : IntKind.u64.wrap (IntKind.i64.wrap (i + j)) = i + j := by
    have h3 : (2 : Int) ^ IntKind.i64.bits = 18446744073709551616 := by decide
    have h4 : (2 : Int) ^ (IntKind.i64.bits - 1) = 9223372036854775808 := by decide
    have h5 : IntKind.i64.signed = true := rfl
    have h6 : (2 : Int) ^ IntKind.u64.bits = 18446744073709551616 := by decide
    have h7 : IntKind.u64.signed = false := rfl
    have hm : (i + j) % 18446744073709551616 = i + j := Int.emod_eq_of_lt (by omega) (by omega)
    simp only [IntKind.wrap, h3, h4, h5, h6, h7, hm, Bool.true_and, Bool.false_and, Bool.false_eq_true, if_false, decide_eq_true_eq, ge_iff_le]
    split
    · omega
    · omega
  rw [e, show ((2 : Int) ^ 1) = 2 by decide, Int.fdiv_eq_ediv_of_nonneg _ (by decide)]
  rw [wi64] <;> omega

structure Lm (l : List TRule) (s : Int) : Prop where
  srt : l.Pairwise fun a b => a.Seq < b.Seq
  bnd : ∀ x ∈ l, 1 ≤ x.Seq ∧ x.Seq ≤ 65535
  len : l.length ≤ 1000
  s : 1 ≤ s ∧ s ≤ 65535

theorem cmp75 {x : TRule} {s : Int} (hx : 1 ≤ x.Seq ∧ x.Seq ≤ 65535) (hs : 1 ≤ s ∧ s ≤ 65535) : F75_plist_find_1 x s = x.Seq - s := by
  unfold F75_plist_find_1
  exact wi64 (by omega) (by omega)

theorem bs_l1 {l : List TRule} {s : Int} (h : Lm l s) : ∀ (fuel i j : Nat), i ≤ j → j ≤ l.length → j - i < 2 ^ fuel →
    (∀ a (ha : a < l.length), a < i → l[a].Seq < s) → (∀ a (ha : a < l.length), j ≤ a → ¬ l[a].Seq < s) →
    ∃ c : Nat, F74_slices_BinarySearchFunc_l1 l s (fun y0 y1 => F75_plist_find_1 y0 y1) (fuel + 1) (i : Int) (j : Int) = some ((c : Int), (c : Int)) ∧ c ≤ l.length ∧
      (∀ a (ha : a < l.length), a < c → l[a].Seq < s) ∧ (∀ a (ha : a < l.length), c ≤ a → ¬ l[a].Seq < s)
  | fuel, i, j, hij, hj, hf, hlo, hhi => by
    have hlen := h.len
    unfold F74_slices_BinarySearchFunc_l1
    by_cases hlt : i < j
    · have hlt' : (i : Int) < (j : Int) := by omega
      simp only [hlt', decide_true, cond_true]
      rw [mid_eq (by omega) (by omega) (by omega), show ((i : Int) + (j : Int)) / 2 = (((i + j) / 2 : Nat) : Int) by omega]
      have hm : (i + j) / 2 < l.length := by omega
      rw [getI_nat (List.getElem?_eq_getElem hm)]
      simp only [cmp75 (h.bnd _ (List.getElem_mem hm)) h.s]
      match fuel, hf with
      | 0, hf => omega
      | fuel + 1, hf =>
        have hf2 : j - i < 2 * 2 ^ fuel := by rw [Nat.pow_succ] at hf; omega
        by_cases hc : l[(i + j) / 2].Seq < s
        · have hc' : l[(i + j) / 2].Seq - s < 0 := by omega
          simp only [hc', decide_true, cond_true]
          rw [show IntKind.i64.wrap ((((i + j) / 2 : Nat) : Int) + 1) = (((i + j) / 2 + 1 : Nat) : Int) by rw [wi64 (by omega) (by omega)]; omega]
          refine bs_l1 h fuel ((i + j) / 2 + 1) j (by omega) hj (by omega) (fun a ha hai => ?_) hhi
          rcases Nat.lt_or_eq_of_le (Nat.le_of_lt_succ hai) with q | q
          · exact Int.lt_trans (List.pairwise_iff_getElem.1 h.srt a _ ha hm q) hc
          · subst q; exact hc
        · have hc' : ¬ l[(i + j) / 2].Seq - s < 0 := by omega
          simp only [hc', decide_false, cond_false]
          refine bs_l1 h fuel i ((i + j) / 2) (by omega) (by omega) (by omega) hlo (fun a ha hai => ?_)
          rcases Nat.lt_or_eq_of_le hai with q | q
          · have := List.pairwise_iff_getElem.1 h.srt _ a hm ha q
            intro q2; exact hc (Int.lt_trans this q2)
          · subst q; exact hc
    · have hlt' : ¬ (i : Int) < (j : Int) := by omega
      simp only [hlt', decide_false, cond_false]
      have : i = j := by omega
      subst this
      exact ⟨i, rfl, hj, hlo, hhi⟩

/-- Where a number stands, or would. -/
theorem find_eq {l : List TRule} {s : Int} (h : Lm l s) : ∃ A B, l = A ++ B ∧ (∀ y ∈ A, y.Seq < s) ∧ (∀ y ∈ B, ¬ y.Seq < s) ∧ F56_plist_find l s = some ((A.length : Int), l.any fun y => decide (y.Seq = s)) := by
  have hlen := h.len
  have hp99 : l.length - 0 < 2 ^ 99 := Nat.lt_of_lt_of_le (show l.length - 0 < 2 ^ 10 by omega) (Nat.pow_le_pow_right (by decide) (by decide))
  obtain ⟨c, h1, h2, h3, h4⟩ := bs_l1 h 99 0 l.length (Nat.zero_le _) (Nat.le_refl _) hp99 (fun a ha h0 => absurd h0 (Nat.not_lt_zero _)) (fun a ha h0 => absurd ha (by omega))
  have hA : ∀ y ∈ l.take c, y.Seq < s := by
    intro y hy
    obtain ⟨i, hi, rfl⟩ := List.getElem_of_mem hy
    rw [List.length_take] at hi
    rw [List.getElem_take]
    exact h3 i (by omega) (by omega)
  have hB : ∀ y ∈ l.drop c, ¬ y.Seq < s := by
    intro y hy
    obtain ⟨i, hi, rfl⟩ := List.getElem_of_mem hy
    rw [List.length_drop] at hi
    rw [List.getElem_drop]
    exact h4 _ (by omega) (by omega)
  refine ⟨l.take c, l.drop c, (List.take_append_drop c l).symm, hA, hB, ?_⟩
  unfold F56_plist_find F74_slices_BinarySearchFunc
  have e0 : (((0 : Nat) : Int)) = 0 := rfl
  rw [e0] at h1
  rw [h1]
  have e1 : (l.take c).length = c := by rw [List.length_take]; omega
  rw [e1]
  by_cases hc : c < l.length
  · have d : decide ((c : Int) < (l.length : Int)) = true := by simp; omega
    simp only [d, cond_true]
    rw [getI_nat (List.getElem?_eq_getElem hc)]
    simp only [cmp75 (h.bnd _ (List.getElem_mem hc)) h.s]
    congr 2
    rw [Bool.eq_iff_iff]
    simp only [decide_eq_true_eq, List.any_eq_true]
    constructor
    · intro k
      exact ⟨_, List.getElem_mem hc, by omega⟩
    · rintro ⟨y, hy, k⟩
      obtain ⟨i, hi, rfl⟩ := List.getElem_of_mem hy
      rcases Nat.lt_trichotomy i c with q | q | q
      · have := h3 i hi q; omega
      · subst q; omega
      · have k2 := List.pairwise_iff_getElem.1 h.srt c i hc hi q
        have := h4 c hc (Nat.le_refl _)
        omega
  · have d : decide ((c : Int) < (l.length : Int)) = false := by simp; omega
    simp only [d, cond_false]
    congr 2
    symm
    rw [List.any_eq_false]
    intro y hy
    have hcl : l.take c = l := List.take_of_length_le (by omega)
    rw [hcl] at hA
    have := hA y hy
    simp
    omega

theorem filter_parts {A B : List TRule} {s : Int} (hA : ∀ y ∈ A, y.Seq < s) (hB : ∀ y ∈ B, s < y.Seq) :
    (A ++ B).filter (fun y => decide (y.Seq < s)) = A ∧ (A ++ B).filter (fun y => decide (s < y.Seq)) = B := by
  rw [List.filter_append, List.filter_append]
  have e1 : A.filter (fun y => decide (y.Seq < s)) = A := List.filter_eq_self.2 fun y hy => by have := hA y hy; simp; omega
  have e2 : A.filter (fun y => decide (s < y.Seq)) = [] := List.filter_eq_nil_iff.2 fun y hy => by have := hA y hy; simp; omega
  have e3 : B.filter (fun y => decide (y.Seq < s)) = [] := List.filter_eq_nil_iff.2 fun y hy => by have := hB y hy; simp; omega
  have e4 : B.filter (fun y => decide (s < y.Seq)) = B := List.filter_eq_self.2 fun y hy => by have := hB y hy; simp; omega
  rw [e1, e2, e3, e4]
  simp

def putW (l : List TRule) (x : TRule) : List TRule := l.filter (fun y => decide (y.Seq < x.Seq)) ++ x :: l.filter (fun y => decide (x.Seq < y.Seq))

def addW (l : List TRule) (x : TRule) : List TRule × Int :=
  if F10_plist_May x = true then (if l.any (fun y => decide (y.Seq = x.Seq)) = true then ([], 7) else if 200 ≤ l.length then ([], 8) else (putW l x, 0)) else ([], 1)

theorem add_eq {l : List TRule} (hl : LOk l) (hn : l.length ≤ 1000) (x : TRule) : F23_plist_Add l x = some (addW l x) := by
  unfold F23_plist_Add addW
  cases hm : F10_plist_May x with
  | false => rfl
  | true =>
    simp only [cond_true, if_true]
    obtain ⟨x1, x2, _⟩ := rmay_seq hm
    have hL : Lm l x.Seq := ⟨hl.srt, fun y hy => ⟨(rmay_seq (hl.may y hy)).1, (rmay_seq (hl.may y hy)).2.1⟩, hn, x1, x2⟩
    obtain ⟨A, B, e, hA, hB, hF⟩ := find_eq hL
    rw [hF]
    cases ha : l.any (fun y => decide (y.Seq = x.Seq)) with
    | true => simp
    | false =>
      simp only [cond_false]
      by_cases h2 : 200 ≤ l.length
      · have d : decide (200 ≤ (l.length : Int)) = true := by simp; omega
        rw [d]
        simp [h2]
      · have d : decide (200 ≤ (l.length : Int)) = false := by simp; omega
        have d1 : decide (l.length < 1099511627776) = true := by simp; omega
        have d2 : decide ((0 : Int) ≤ (A.length : Int)) = true := by simp
        have hle := congrArg List.length e
        rw [List.length_append] at hle
        have d3 : decide ((A.length : Int) ≤ (l.length : Int)) = true := by simp; omega
        simp only [d, d1, d2, d3, cond_true, cond_false, if_neg h2]
        congr 2
        have hB' : ∀ y ∈ B, x.Seq < y.Seq := fun y hy => by
          have k1 := hB y hy
          have k2 := List.any_eq_false.1 ha y (by rw [e]; exact List.mem_append_right _ hy)
          simp at k2
          omega
        obtain ⟨f1, f2⟩ := filter_parts hA hB'
        unfold putW ins_
        rw [e, f1, f2]
        simp

theorem refAdd_put (x : TRule) : ∀ (l out : List TRule), out.length + l.length < 1099511627776 → F25_crossroadsref07_Add_l1 x true out l = some (true, out ++ l)
  | [], out, _ => by rw [F25_crossroadsref07_Add_l1]; simp
  | y :: l, out, h => by
    rw [F25_crossroadsref07_Add_l1]
    simp only [List.length_cons] at h
    have d : decide (out.length < 1099511627776) = true := by simp; omega
    simp only [cond_true, d]
    rw [refAdd_put x l _ (by simp; omega)]
    simp

theorem refAdd_l1 (x : TRule) : ∀ (l out : List TRule), out.length + l.length < 1099511627770 → (l.Pairwise fun a b => a.Seq < b.Seq) → (∀ y ∈ l, y.Seq ≠ x.Seq) →
    F25_crossroadsref07_Add_l1 x false out l = some (true, out ++ putW l x) ∨ (F25_crossroadsref07_Add_l1 x false out l = some (false, out ++ l) ∧ ∀ y ∈ l, y.Seq < x.Seq)
  | [], out, _, _, _ => .inr ⟨by rw [F25_crossroadsref07_Add_l1]; simp, fun y hy => (by cases hy)⟩
  | y :: l, out, h, hs, hne => by
    rw [F25_crossroadsref07_Add_l1]
    simp only [List.length_cons] at h
    have d : decide (out.length < 1099511627776) = true := by simp; omega
    rw [List.pairwise_cons] at hs
    by_cases hlt : x.Seq < y.Seq
    · have d2 : decide ((out ++ ([x] : List TRule)).length < 1099511627776) = true := by simp; omega
      simp only [hlt, decide_true, cond_true, cond_false, d, d2]
      left
      rw [refAdd_put x l _ (by simp; omega)]
      have e1 : (y :: l).filter (fun z => decide (z.Seq < x.Seq)) = [] := List.filter_eq_nil_iff.2 fun z hz => by
        rcases List.mem_cons.1 hz with rfl | hz
        · simp; omega
        · have := hs.1 z hz; simp; omega
      have e2 : (y :: l).filter (fun z => decide (x.Seq < z.Seq)) = y :: l := List.filter_eq_self.2 fun z hz => by
        rcases List.mem_cons.1 hz with rfl | hz
        · simp; omega
        · have := hs.1 z hz; simp; omega
      unfold putW
      rw [e1, e2]
      simp
    · have hne' := hne y List.mem_cons_self
      have hlt2 : y.Seq < x.Seq := by omega
      simp only [hlt, decide_false, cond_true, cond_false, d]
      rcases refAdd_l1 x l (out ++ [y]) (by simp; omega) hs.2 (fun z hz => hne z (List.mem_cons_of_mem _ hz)) with k | ⟨k, k2⟩
      · left
        rw [k]
        unfold putW
        rw [List.filter_cons, List.filter_cons, if_pos (by simpa using hlt2), if_neg (by simpa using hlt)]
        simp
      · right
        refine ⟨by rw [k]; simp, fun z hz => ?_⟩
        rcases List.mem_cons.1 hz with rfl | hz
        · exact hlt2
        · exact k2 z hz

theorem refAdd_eq {l : List TRule} (hl : LOk l) (hn : l.length ≤ 1000) {x : TRule} (hx : InK .u32 x.P.A) : F25_crossroadsref07_Add l x = some (addW l x) := by
  unfold F25_crossroadsref07_Add addW
  rw [← rmay_same hx]
  cases hm : F10_plist_May x with
  | false => rfl
  | true =>
    simp only [cond_true, if_true]
    rw [refDrop_eq (by omega)]
    unfold dropW
    cases ha : l.any (fun y => decide (y.Seq = x.Seq)) with
    | true => simp
    | false =>
      simp only [Bool.false_eq_true, if_false]
      have d6 : decide ((6 : Int) = 0) = false := by decide
      rw [d6]
      simp only [cond_false]
      by_cases h2 : 200 ≤ l.length
      · have d : decide (200 ≤ (l.length : Int)) = true := by simp; omega
        rw [d]
        simp [h2]
      · have d : decide (200 ≤ (l.length : Int)) = false := by simp; omega
        rw [d]
        simp only [cond_false, if_neg h2]
        have hne : ∀ y ∈ l, y.Seq ≠ x.Seq := fun y hy => by
          have := List.any_eq_false.1 ha y hy
          simpa using this
        rcases refAdd_l1 x l [] (by simp; omega) hl.srt hne with k | ⟨k, k2⟩
        · rw [k]
          simp
        · rw [k]
          have d3 : decide ((([] : List TRule) ++ l).length < 1099511627776) = true := by simp; omega
          simp only [d3, cond_true, cond_false]
          have e1 : l.filter (fun z => decide (z.Seq < x.Seq)) = l := List.filter_eq_self.2 fun z hz => by have := k2 z hz; simp; omega
          have e2 : l.filter (fun z => decide (x.Seq < z.Seq)) = [] := List.filter_eq_nil_iff.2 fun z hz => by have := k2 z hz; simp; omega
          unfold putW
          rw [e1, e2]
          simp

/-! ### Idle rules -/

def idG : List TRule → List TRule → List Int
  | _, [] => []
  | pre, x :: rest => if pre.any (fun y => F50_plist_Rule_hides y x) = true then x.Seq :: idG (pre ++ [x]) rest else idG (pre ++ [x]) rest

def keepG : List TRule → List TRule → List TRule
  | _, [] => []
  | pre, x :: rest => if pre.any (fun y => F50_plist_Rule_hides y x) = true then keepG (pre ++ [x]) rest else x :: keepG (pre ++ [x]) rest

theorem idG_len : ∀ (rest pre : List TRule), (keepG pre rest).length + (idG pre rest).length = rest.length
  | [], pre => rfl
  | x :: rest, pre => by
    have ih := idG_len rest (pre ++ [x])
    unfold idG keepG
    by_cases h : pre.any (fun y => F50_plist_Rule_hides y x) = true
    · rw [if_pos h, if_pos h]; simp; omega
    · rw [if_neg h, if_neg h]; simp; omega

theorem idle_l1 {l : List TRule} : ∀ (rest pre : List TRule) (out : List Int), l = pre ++ rest → out.length + rest.length < 1099511627776 → F20_plist_Idle_l1 l out pre.length rest = some (out ++ idG pre rest)
  | [], pre, out, _, _ => by rw [F20_plist_Idle_l1]; simp [idG]
  | x :: rest, pre, out, he, hn => by
    rw [F20_plist_Idle_l1]
    simp only [List.length_cons] at hn
    have hlen : (pre ++ [x]).length = pre.length + 1 := by simp
    have he' : l = (pre ++ [x]) ++ rest := by rw [he]; simp
    have d0 : decide ((0 : Int) ≤ (pre.length : Int)) = true := by simp
    have d1 : decide ((pre.length : Int) ≤ (l.length : Int)) = true := by rw [he]; simp; omega
    have d2 : decide (out.length < 1099511627776) = true := by simp; omega
    have ht : l.take pre.length = pre := by rw [he]; simp
    have e : F48_slices_ContainsFunc (l.take pre.length) (fun y0 => F49_plist_Idle_1 y0 x) = pre.any (fun y => F50_plist_Rule_hides y x) := by rw [ht, has48]; rfl
    simp only [d0, d1, d2, e, cond_true]
    rw [idG]
    cases h : pre.any (fun y => F50_plist_Rule_hides y x) with
    | true =>
      simp only [cond_true, if_true]
      rw [← hlen, idle_l1 rest (pre ++ [x]) _ he' (by simp; omega)]
      simp
    | false =>
      simp only [cond_false, Bool.false_eq_true, if_false]
      rw [← hlen, idle_l1 rest (pre ++ [x]) _ he' (by omega)]

theorem idle_eq {l : List TRule} (hn : l.length ≤ 1000) : F20_plist_Idle l = some (idG [] l) := by
  unfold F20_plist_Idle
  have := idle_l1 (l := l) l [] [] rfl (by simp; omega)
  simp only [List.length_nil, List.nil_append] at this
  rw [this]

theorem refHide {y x : TRule} (hy : InK .u32 y.P.A) (hx : InK .u32 x.P.A) : F50_plist_Rule_hides y x = (F42_crossroadsref03_Covers y.P x.P && (decide ((F41_crossroadsref07_Bounds y).1 ≤ (F41_crossroadsref07_Bounds x).1) && decide ((F41_crossroadsref07_Bounds x).2 ≤ (F41_crossroadsref07_Bounds y).2))) := by
  unfold F50_plist_Rule_hides
  rw [bounds_same, bounds_same, covers_same hy hx]

theorem refIdle_l1 {l : List TRule} {x : TRule} {i : Nat} (hi : i ≤ l.length) (hn : i ≤ 1000) (hu : ∀ y ∈ l, InK .u32 y.P.A) (hx : InK .u32 x.P.A) : ∀ (k j : Nat) (b : Bool), j + k = i → F29_crossroadsref07_Idle_l1 l i x (F41_crossroadsref07_Bounds x).1 (F41_crossroadsref07_Bounds x).2 k b (j : Int) = some (b || ((l.take i).drop j).any fun y => F50_plist_Rule_hides y x)
  | 0, j, b, hj => by
    unfold F29_crossroadsref07_Idle_l1
    have d : decide ((j : Int) < (i : Int)) = false := by simp; omega
    rw [d]
    simp only [cond_false]
    rw [List.drop_of_length_le (by rw [List.length_take]; omega)]
    simp
  | k + 1, j, b, hj => by
    unfold F29_crossroadsref07_Idle_l1
    have d : decide ((j : Int) < (i : Int)) = true := by simp; omega
    have hjl : j < l.length := by omega
    rw [d]
    simp only [cond_true]
    rw [getI_nat (List.getElem?_eq_getElem hjl)]
    have hw : IntKind.i64.wrap ((j : Int) + 1) = ((j + 1 : Nat) : Int) := by rw [wi64 (by omega) (by omega)]; omega
    have hd : (l.take i).drop j = l[j] :: (l.take i).drop (j + 1) := by
      rw [List.drop_eq_getElem_cons (by rw [List.length_take]; omega)]
      simp
    rw [hd, List.any_cons, refHide (hu _ (List.getElem_mem hjl)) hx]
    have ih := fun b => refIdle_l1 hi hn hu hx k (j + 1) b (by omega)
    simp only [hw]
    cases b with
    | true =>
      simp only [cond_true]
      rw [ih]
      simp
    | false =>
      simp only [cond_false]
      cases F42_crossroadsref03_Covers l[j].P x.P with
      | false =>
        simp only [cond_false]
        rw [ih]
        simp
      | true =>
        simp only [cond_true, Bool.true_and, Bool.false_or]
        by_cases h1 : (F41_crossroadsref07_Bounds l[j]).1 ≤ (F41_crossroadsref07_Bounds x).1
        · simp only [h1, decide_true, cond_true, Bool.true_and]
          rw [ih]
        · simp only [h1, decide_false, cond_false, Bool.false_and]
          rw [ih]

theorem refIdle_l2 {l : List TRule} (hn : l.length ≤ 1000) (hu : ∀ y ∈ l, InK .u32 y.P.A) : ∀ (rest pre : List TRule) (out : List Int), l = pre ++ rest → out.length + rest.length < 1099511627776 → F29_crossroadsref07_Idle_l2 l out pre.length rest = some (out ++ idG pre rest)
  | [], pre, out, _, _ => by rw [F29_crossroadsref07_Idle_l2]; simp [idG]
  | x :: rest, pre, out, he, hk => by
    rw [F29_crossroadsref07_Idle_l2]
    simp only [List.length_cons] at hk
    have hll := congrArg List.length he
    simp only [List.length_append, List.length_cons] at hll
    have hlen : (pre ++ [x]).length = pre.length + 1 := by simp
    have he' : l = (pre ++ [x]) ++ rest := by rw [he]; simp
    have d2 : decide (out.length < 1099511627776) = true := by simp; omega
    have ht : l.take pre.length = pre := by rw [he]; simp
    have hf : fuelUp 0 (pre.length : Int) = pre.length := fuel_nat (i := 0) (by omega) (by omega)
    have hl1 := refIdle_l1 (l := l) (x := x) (i := pre.length) (by omega) (by omega) hu (hu x (by rw [he]; simp)) pre.length 0 false (by omega)
    rw [ht] at hl1
    simp only [List.drop_zero, Bool.false_or] at hl1
    rw [hf]
    have hl1' : F29_crossroadsref07_Idle_l1 l pre.length x (F41_crossroadsref07_Bounds x).1 (F41_crossroadsref07_Bounds x).2 pre.length false 0 = some (pre.any fun y => F50_plist_Rule_hides y x) := hl1
    simp only [hl1']
    rw [idG]
    cases h : pre.any (fun y => F50_plist_Rule_hides y x) with
    | true =>
      simp only [cond_true, if_true, d2]
      rw [← hlen, refIdle_l2 hn hu rest (pre ++ [x]) _ he' (by simp; omega)]
      simp
    | false =>
      simp only [cond_false, Bool.false_eq_true, if_false]
      rw [← hlen, refIdle_l2 hn hu rest (pre ++ [x]) _ he' (by omega)]

theorem refIdle_eq {l : List TRule} (hn : l.length ≤ 1000) (hu : ∀ y ∈ l, InK .u32 y.P.A) : F29_crossroadsref07_Idle l = some (idG [] l) := by
  unfold F29_crossroadsref07_Idle
  have := refIdle_l2 hn hu l [] [] rfl (by simp; omega)
  simp only [List.length_nil, List.nil_append] at this
  rw [this]

/-! ### The same -/

theorem same_l1 {b : List TRule} : ∀ (rest pre : List TRule), b = pre ++ rest → F24_crossroadsref07_Same_l1 b pre.length rest = .ok ()
  | [], pre, _ => rfl
  | x :: rest, pre, he => by
    rw [F24_crossroadsref07_Same_l1]
    have hlen : (pre ++ [x]).length = pre.length + 1 := by simp
    have hx : b.getD pre.length default = x := by rw [he]; simp
    rw [hx]
    simp only [beq_self_eq_true, decide_true, Bool.and_true, cond_true]
    rw [← hlen]
    exact same_l1 rest (pre ++ [x]) (by rw [he]; simp)

theorem same_eq (a : List TRule) : F24_crossroadsref07_Same a a = true := by
  unfold F24_crossroadsref07_Same
  rw [show F24_crossroadsref07_Same_l1 a 0 a = .ok () from same_l1 a [] rfl]
  simp

theorem ints_l1 {b : List Int} : ∀ (rest pre : List Int), b = pre ++ rest → F28_crossroadsref05_Ints_l1 b pre.length rest = .ok ()
  | [], pre, _ => rfl
  | x :: rest, pre, he => by
    rw [F28_crossroadsref05_Ints_l1]
    have hlen : (pre ++ [x]).length = pre.length + 1 := by simp
    have hx : b.getD pre.length default = x := by rw [he]; simp
    rw [hx]
    simp only [decide_true, cond_true]
    rw [← hlen]
    exact ints_l1 rest (pre ++ [x]) (by rw [he]; simp)

theorem ints_eq (a : List Int) : F28_crossroadsref05_Ints a a = true := by
  unfold F28_crossroadsref05_Ints
  rw [show F28_crossroadsref05_Ints_l1 a 0 a = .ok () from ints_l1 a [] rfl]
  simp

/-! ### The laws -/

theorem ok_u32 {l : List TRule} (h : ∀ y ∈ l, TRule.ok y) : ∀ x ∈ l, InK .u32 x.P.A := fun x hx => (h x hx).2.1.1

theorem addW_len (l : List TRule) (x : TRule) : (addW l x).1.length ≤ 2 * l.length + 1 := by
  unfold addW
  split
  · split
    · simp
    · split
      · simp
      · unfold putW
        have h1 := List.length_filter_le (fun y : TRule => decide (y.Seq < x.Seq)) l
        have h2 := List.length_filter_le (fun y : TRule => decide (x.Seq < y.Seq)) l
        simp
        omega
  · simp

theorem dropW_len (l : List TRule) (s : Int) : (dropW l s).1.length ≤ l.length := by
  unfold dropW
  split
  · exact List.length_filter_le _ _
  · simp

theorem plistLists_true (l : List TRule) (x : TRule) (q : TPrefix) (ok0 : ∀ y ∈ l, TRule.ok y) (ok1 : TRule.ok x) (ok2 : TPrefix.ok q) : F7_crossroadslaw07_PlistLists l x q = some true := by
  unfold F7_crossroadslaw07_PlistLists
  by_cases hn : 210 < l.length
  · have d : decide (210 < (l.length : Int)) = true := by simp; omega
    rw [d]
    exact alive_true
  · have d : decide (210 < (l.length : Int)) = false := by simp; omega
    rw [d, rows_eq (by omega)]
    simp only [cond_false]
    cases hm : F18_crossroadsref07_MayAll l with
    | false => exact alive_true
    | true =>
      have hl := mayAll_ok (ok_u32 ok0) hm
      have d1 : decide (l.length < 1099511627776) = true := by simp; omega
      have a1 := addW_len l x
      have a2 := dropW_len l x.Seq
      simp only [d1, cond_true, add_eq hl (by omega) x, F13_crossroadslaw07_plain, refAdd_eq hl (by omega) ok1.2.1.1, drop_eq (show l.length < 1099511627776 by omega) hl.srt, refDrop_eq (show l.length < 1099511627776 by omega),
        eval_eq, refEval_eq (ok_u32 ok0) ok2.1, rows_eq (show (addW l x).1.length < 1099511627776 by omega), rows_eq (show (dropW l x.Seq).1.length < 1099511627776 by omega), same_eq, idle_eq (show l.length ≤ 1000 by omega),
        refIdle_eq (show l.length ≤ 1000 by omega) (ok_u32 ok0), ints_eq, alive_true, decide_true, beq_self_eq_true]

theorem hides_means {y x : TRule} {q : TPrefix} (hy : InK .u32 y.P.A) (hx : InK .u32 x.P.A) (hq : InK .u32 q.A) (my : F10_plist_May y = true) (h : F50_plist_Rule_hides y x = true) (k : F14_plist_Means x q = true) : F14_plist_Means y q = true := by
  unfold F50_plist_Rule_hides at h
  unfold F14_plist_Means at k ⊢
  simp only [Bool.and_eq_true, decide_eq_true_eq] at h k ⊢
  obtain ⟨h1, h2, h3⟩ := h
  obtain ⟨k1, k2, k3, k4⟩ := k
  exact ⟨my, (covers_C hy hq).2 (((covers_C hy hx).1 h1).trans ((covers_C hx hq).1 k2)), by omega, by omega⟩

theorem find_keep {l : List TRule} {q : TPrefix} (hq : InK .u32 q.A) (hl : LOk l) : ∀ (rest pre : List TRule), l = pre ++ rest → (∀ y ∈ pre, F14_plist_Means y q = false) → rest.find? (fun x => F14_plist_Means x q) = (keepG pre rest).find? (fun x => F14_plist_Means x q)
  | [], pre, _, _ => rfl
  | x :: rest, pre, he, hp => by
    have he' : l = (pre ++ [x]) ++ rest := by rw [he]; simp
    have hmx : x ∈ l := by rw [he]; simp
    cases hx : F14_plist_Means x q with
    | false =>
      have hp' : ∀ y ∈ pre ++ [x], F14_plist_Means y q = false := by
        intro y hy
        rcases List.mem_append.1 hy with hy | hy
        · exact hp y hy
        · rw [List.mem_singleton.1 hy]; exact hx
      have ih := find_keep hq hl rest (pre ++ [x]) he' hp'
      rw [keepG, List.find?_cons, hx]
      simp only
      split
      · exact ih
      · rw [List.find?_cons, hx]
        exact ih
    | true =>
      rw [keepG]
      have hno : ¬ pre.any (fun y => F50_plist_Rule_hides y x) = true := by
        intro k
        obtain ⟨y, hy, k⟩ := List.any_eq_true.1 k
        have hml : y ∈ l := by rw [he]; exact List.mem_append_left _ hy
        have := hides_means (hl.u32 y hml) (hl.u32 x hmx) hq (hl.may y hml) k hx
        rw [hp y hy] at this
        cases this
      rw [if_neg hno, List.find?_cons, List.find?_cons, hx]

theorem idleDrop_l1 : ∀ (rest pre K : List TRule), (K ++ rest).length < 1099511627776 → (K ++ rest).Pairwise (fun a b => a.Seq < b.Seq) → F5_crossroadslaw07_PlistIdle_l1 (K ++ rest) (idG pre rest) = some (.ok (K ++ keepG pre rest))
  | [], pre, K, _, _ => by rw [idG, keepG, F5_crossroadslaw07_PlistIdle_l1]
  | x :: rest, pre, K, hn, hs => by
    rw [idG, keepG]
    by_cases h : pre.any (fun y => F50_plist_Rule_hides y x) = true
    · rw [if_pos h, if_pos h, F5_crossroadslaw07_PlistIdle_l1, drop_eq hn hs]
      have hd : dropW (K ++ x :: rest) x.Seq = (K ++ rest, 0) := by
        unfold dropW
        rw [if_pos (List.any_eq_true.2 ⟨x, by simp, by simp⟩), filter_ne hs]
      rw [hd]
      simp only [decide_true, cond_true]
      refine idleDrop_l1 rest (pre ++ [x]) K (by simp at hn ⊢; omega) ?_
      rw [List.pairwise_append] at hs ⊢
      exact ⟨hs.1, (List.pairwise_cons.1 hs.2.1).2, fun a ha b hb => hs.2.2 a ha b (List.mem_cons_of_mem _ hb)⟩
    · rw [if_neg h, if_neg h]
      have e : ∀ r : List TRule, K ++ x :: r = (K ++ [x]) ++ r := fun r => by simp
      rw [e rest, e (keepG (pre ++ [x]) rest)]
      rw [e rest] at hn hs
      exact idleDrop_l1 rest (pre ++ [x]) (K ++ [x]) hn hs

theorem plistIdle_true (l : List TRule) (q : TPrefix) (ok0 : ∀ y ∈ l, TRule.ok y) (ok1 : TPrefix.ok q) : F5_crossroadslaw07_PlistIdle l q = some true := by
  unfold F5_crossroadslaw07_PlistIdle
  by_cases hn : 210 < l.length
  · have d : decide (210 < (l.length : Int)) = true := by simp; omega
    rw [d]
    exact alive_true
  · have d : decide (210 < (l.length : Int)) = false := by simp; omega
    rw [d, rows_eq (by omega)]
    simp only [cond_false]
    cases hm : F18_crossroadsref07_MayAll l with
    | false => exact alive_true
    | true =>
      have hl := mayAll_ok (ok_u32 ok0) hm
      have d1 : decide (l.length < 1099511627776) = true := by simp; omega
      have hi := idleDrop_l1 l [] [] (by simp; omega) hl.srt
      simp only [List.nil_append] at hi
      have hf := find_keep ok1.1 hl l [] rfl (fun y hy => (by cases hy))
      have he : evalW (keepG [] l) q = evalW l q := by unfold evalW; rw [hf]
      have hc := idG_len l []
      have hw : IntKind.i64.wrap ((l.length : Int) - ((idG [] l).length : Int)) = ((keepG [] l).length : Int) := by rw [wi64 (by omega) (by omega)]; omega
      simp only [d1, cond_true, idle_eq (show l.length ≤ 1000 by omega), hi, eval_eq, he, alive_true, beq_self_eq_true, decide_true, hw]

abbrev allX : TRule := ⟨65535, true, ⟨0, 0⟩, 0, 32⟩
theorem may_allX : F10_plist_May allX = true := by kernel_rfl
theorem means_allX (q : TPrefix) : F14_plist_Means allX q = F14_plist_Means ⟨1, false, ⟨0, 0⟩, 0, 32⟩ q := by
  have h2 : F10_plist_May ⟨1, false, ⟨0, 0⟩, 0, 32⟩ = true := by kernel_rfl
  unfold F14_plist_Means
  rw [may_allX, h2]
  rfl

theorem putW_mid {l : List TRule} {x : TRule} (hs : l.Pairwise fun a b => a.Seq < b.Seq) (hne : ∀ y ∈ l, y.Seq ≠ x.Seq) : ∃ A B, l = A ++ B ∧ putW l x = A ++ x :: B ∧ (A ++ x :: B).Pairwise (fun a b => a.Seq < b.Seq) := by
  refine ⟨l.filter (fun y => decide (y.Seq < x.Seq)), l.filter (fun y => decide (x.Seq < y.Seq)), ?_, rfl, ?_⟩
  · induction l with
    | nil => rfl
    | cons y l ih =>
      rw [List.pairwise_cons] at hs
      have hy := hne y List.mem_cons_self
      have ih := ih hs.2 (fun z hz => hne z (List.mem_cons_of_mem _ hz))
      rw [List.filter_cons, List.filter_cons]
      by_cases h : y.Seq < x.Seq
      · rw [if_pos (by simpa using h), if_neg (by simp; omega), List.cons_append, ← ih]
      · have e1 : l.filter (fun z => decide (z.Seq < x.Seq)) = [] := List.filter_eq_nil_iff.2 fun z hz => by have := hs.1 z hz; simp; omega
        rw [if_neg (by simpa using h), if_pos (by simp; omega), e1, List.nil_append]
        rw [e1, List.nil_append] at ih
        rw [← ih]
  · rw [List.pairwise_append, List.pairwise_cons]
    refine ⟨hs.filter _, ⟨fun b hb => ?_, hs.filter _⟩, fun a ha b hb => ?_⟩
    · simpa using (List.mem_filter.1 hb).2
    · have h1 : a.Seq < x.Seq := by simpa using (List.mem_filter.1 ha).2
      rcases List.mem_cons.1 hb with rfl | hb
      · exact h1
      · have h2 : x.Seq < b.Seq := by simpa using (List.mem_filter.1 hb).2
        omega

theorem addW_case (l : List TRule) (x : TRule) : (addW l x).2 ≠ 0 ∨ (addW l x = (putW l x, 0) ∧ F10_plist_May x = true ∧ ∀ y ∈ l, y.Seq ≠ x.Seq) := by
  unfold addW
  split
  · next hm =>
    split
    · left; simp
    · next ha =>
      split
      · left; simp
      · right
        refine ⟨rfl, hm, fun y hy k => ha (List.any_eq_true.2 ⟨y, hy, by simpa using k⟩)⟩
  · left; simp

theorem plistBack_true (l : List TRule) (x : TRule) (q : TPrefix) (ok0 : ∀ y ∈ l, TRule.ok y) (ok1 : TRule.ok x) (ok2 : TPrefix.ok q) : F6_crossroadslaw07_PlistBack l x q = some true := by
  unfold F6_crossroadslaw07_PlistBack
  by_cases hn : 150 < l.length
  · have d : decide (150 < (l.length : Int)) = true := by simp; omega
    rw [d]
    exact alive_true
  · have d : decide (150 < (l.length : Int)) = false := by simp; omega
    rw [d, rows_eq (by omega)]
    simp only [cond_false]
    cases hm : F18_crossroadsref07_MayAll l with
    | false => exact alive_true
    | true =>
      have hl := mayAll_ok (ok_u32 ok0) hm
      simp only [cond_true, add_eq hl (show l.length ≤ 1000 by omega)]
      -- behind all others
      have tail : (match addW l allX with
          | (c63a, c63b) => match evalW l q with
            | (c69a, c69b) => match evalW c63a q with
              | (c75a, c75b) => (bif decide (c63b = 0) then
                  (bif decide (q.N < 0) then some true else
                    (bif decide (32 < q.N) then some true else
                      (bif F14_plist_Means ⟨1, false, ⟨0, 0⟩, 0, 32⟩ q then
                        (bif decide (c69b = 0) then (bif c75a then some (decide (c75b = 65535)) else some false)
                         else (bif (c75a == c69a) then (bif decide (c75b = c69b) then some true else some false) else some false))
                       else some true)))
                 else some true)) = some true := by
        rcases addW_case l allX with k | ⟨k, _, kne⟩
        · have : decide ((addW l allX).2 = 0) = false := by simpa using k
          simp only [this, cond_false]
        · rw [k]
          have hp : putW l allX = l ++ [allX] := by
            have hlt : ∀ y ∈ l, y.Seq < allX.Seq := fun y hy => by
              have h1 := kne y hy
              have h2 := (rmay_seq (hl.may y hy)).2.1
              simp only at h1 ⊢
              omega
            unfold putW
            rw [List.filter_eq_self.2 (fun y hy => by have := hlt y hy; simpa using this), List.filter_eq_nil_iff.2 (fun y hy => by have := hlt y hy; simp at this ⊢; omega)]
          simp only [decide_true, cond_true]
          by_cases n1 : q.N < 0
          · simp [n1]
          · by_cases n2 : 32 < q.N
            · simp [n1, n2]
            · simp only [n1, n2, decide_false, cond_false]
              cases hM : F14_plist_Means ⟨1, false, ⟨0, 0⟩, 0, 32⟩ q with
              | false => rfl
              | true =>
                simp only [cond_true]
                rw [hp]
                unfold evalW
                rw [List.find?_append]
                cases hfd : l.find? (fun x => F14_plist_Means x q) with
                | some y =>
                  have hy := (rmay_seq (hl.may y (List.mem_of_find?_eq_some hfd))).1
                  have : decide (y.Seq = 0) = false := by simp; omega
                  simp only [Option.some_or, this, cond_false, beq_self_eq_true, decide_true, cond_true]
                | none =>
                  have : [allX].find? (fun x => F14_plist_Means x q) = some allX := by
                    rw [List.find?_cons, means_allX, hM]
                  simp only [Option.none_or, this, decide_true, cond_true]
      have tail' := tail
      rcases addW_case l x with k | ⟨k, _, kne⟩
      · have : decide ((addW l x).2 = 0) = false := by simpa using k
        simp only [this, cond_false]
        simp only [eval_eq, alive_true, cond_true]
        exact tail
      · obtain ⟨A, B, e, hp, hs⟩ := putW_mid hl.srt kne
        have hle := congrArg List.length e
        rw [List.length_append] at hle
        rw [k]
        have hpl : (putW l x).length = l.length + 1 := by rw [hp]; simp; omega
        have hdr : F21_plist_Drop (putW l x) x.Seq = some (l, 0) := by
          rw [drop_eq (by omega) (by rw [hp]; exact hs), hp]
          unfold dropW
          rw [if_pos (List.any_eq_true.2 ⟨x, by simp, by simp⟩), filter_ne hs, ← e]
        have hw : IntKind.i64.wrap ((l.length : Int) + 1) = ((putW l x).length : Int) := by rw [wi64 (by omega) (by omega)]; omega
        simp only [decide_true, cond_true, hdr, hw, rows_eq (show l.length < 1099511627776 by omega), same_eq]
        simp only [eval_eq, alive_true, cond_true]
        exact tail

end Go.Proofs.YtjcpkgnlnmajjaaGreatDoor.Abs
