/- Prefixes: what covers what, in which order they stand, and what two have in common. Plain law: no program in sight. -/
import Derived.Test.YtkdhongicibhbaaDoorL1
import Derived.KernelRfl
set_option linter.unusedVariables false
set_option linter.unusedSimpArgs false
namespace Go.Proofs.YtkdhongicibhbaaDoor.Abs
open Go

/-- A prefix that may be: its numbers. -/
structure PV (p : TPrefix) (a n : Nat) : Prop where
  hA : p.A = a
  hN : p.N = n
  lt : a < 4294967296
  le : n ≤ 32
  al : a % 2 ^ (32 - n) = 0

def V (p : TPrefix) : Prop := ∃ a n, PV p a n

theorem may_V {p : TPrefix} (h : InK .u32 p.A) : F17_addr_May p = true ↔ V p := by
  rw [addrMay_iff h]
  constructor
  · rintro ⟨a, n, h1, h2, h3, h4, h5⟩; exact ⟨a, n, h1, h2, h3, h4, h5⟩
  · rintro ⟨a, n, h1, h2, h3, h4, h5⟩; exact ⟨a, n, h1, h2, h3, h4, h5⟩

theorem inK32 {a : Nat} (h : a < 4294967296) : InK .u32 (a : Int) := by
  have e1 : IntKind.u32.min = 0 := by decide
  have e2 : IntKind.u32.max = 4294967295 := by decide
  unfold InK; rw [e1, e2]; omega

theorem V.inK {p : TPrefix} (h : V p) : InK .u32 p.A := by
  obtain ⟨a, n, h⟩ := h
  rw [h.hA]; exact inK32 h.lt

/-- One covers another. -/
def C (p q : TPrefix) : Prop := ∃ a n b m, PV p a n ∧ PV q b m ∧ n ≤ m ∧ b / 2 ^ (32 - n) = a / 2 ^ (32 - n)

theorem C.left {p q : TPrefix} (h : C p q) : V p := by obtain ⟨a, n, b, m, h1, _⟩ := h; exact ⟨a, n, h1⟩
theorem C.right {p q : TPrefix} (h : C p q) : V q := by obtain ⟨a, n, b, m, _, h1, _⟩ := h; exact ⟨b, m, h1⟩

theorem PV.same {p : TPrefix} {a b n m : Nat} (h : PV p a n) (k : PV p b m) : a = b ∧ n = m := by
  have := h.hA; have := k.hA; have := h.hN; have := k.hN
  omega

theorem align {a k : Nat} (h : a % 2 ^ k = 0) : a / 2 ^ k * 2 ^ k = a := Nat.div_mul_cancel (Nat.dvd_of_mod_eq_zero h)

theorem has_C {p : TPrefix} {b : Nat} (hb : b < 4294967296) (h : InK .u32 p.A) : F22_addr_Has p b = true ↔ ∃ a n, PV p a n ∧ b / 2 ^ (32 - n) = a / 2 ^ (32 - n) := by
  unfold F22_addr_Has
  simp only [Bool.and_eq_true, decide_eq_true_eq]
  rw [may_V h]
  constructor
  · rintro ⟨⟨a, n, hp⟩, h2⟩
    refine ⟨a, n, hp, ?_⟩
    unfold F16_addr_Mask at h2
    rw [hp.hN, mask_eq hp.le, and_mask hb hp.le, hp.hA] at h2
    have h3 : b / 2 ^ (32 - n) * 2 ^ (32 - n) = a := by exact_mod_cast h2
    rw [← h3, Nat.mul_div_cancel _ (Nat.two_pow_pos _)]
  · rintro ⟨a, n, hp, h2⟩
    refine ⟨⟨a, n, hp⟩, ?_⟩
    unfold F16_addr_Mask
    rw [hp.hN, mask_eq hp.le, and_mask hb hp.le, hp.hA, h2, align hp.al]

theorem covers_C {p q : TPrefix} (hp : InK .u32 p.A) (hq : InK .u32 q.A) : F14_addr_Covers p q = true ↔ C p q := by
  unfold F14_addr_Covers
  simp only [Bool.and_eq_true, decide_eq_true_eq]
  rw [may_V hq]
  constructor
  · rintro ⟨⟨b, m, hq'⟩, h2, h3⟩
    rw [hq'.hA] at h3
    obtain ⟨a, n, hp', h4⟩ := (has_C hq'.lt hp).1 h3
    refine ⟨a, n, b, m, hp', hq', ?_, h4⟩
    have := hp'.hN; have := hq'.hN; omega
  · rintro ⟨a, n, b, m, hp', hq', h2, h3⟩
    refine ⟨⟨b, m, hq'⟩, ?_, ?_⟩
    · have := hp'.hN; have := hq'.hN; omega
    · rw [hq'.hA]; exact (has_C hq'.lt hp).2 ⟨a, n, hp', h3⟩

/-- The same from k on, so from any later on. -/
theorem div_more {a b k l : Nat} (h : a / 2 ^ k = b / 2 ^ k) (hl : k ≤ l) : a / 2 ^ l = b / 2 ^ l := by
  obtain ⟨d, rfl⟩ := Nat.exists_eq_add_of_le hl
  rw [Nat.pow_add, ← Nat.div_div_eq_div_mul, ← Nat.div_div_eq_div_mul, h]
theorem div_half {a k : Nat} : a / 2 ^ (k + 1) = a / 2 ^ k / 2 := by
  rw [Nat.pow_succ, Nat.div_div_eq_div_mul]
theorem div_lt_lt {a b k : Nat} (h : a / 2 ^ k < b / 2 ^ k) : a < b := by
  apply Nat.lt_of_not_le
  intro hl
  exact absurd (Nat.div_le_div_right (c := 2 ^ k) hl) (by omega)

theorem C.refl {p : TPrefix} (h : V p) : C p p := by
  obtain ⟨a, n, h⟩ := h
  exact ⟨a, n, a, n, h, h, Nat.le_refl _, rfl⟩
theorem C.le {p q : TPrefix} (h : C p q) : p.N ≤ q.N := by
  obtain ⟨a, n, b, m, h1, h2, h3, _⟩ := h
  rw [h1.hN, h2.hN]; omega
theorem C.trans {p q r : TPrefix} (h : C p q) (k : C q r) : C p r := by
  obtain ⟨a, n, b, m, h1, h2, h3, h4⟩ := h
  obtain ⟨b', m', c, l, k1, k2, k3, k4⟩ := k
  obtain ⟨rfl, rfl⟩ := h2.same k1
  exact ⟨a, n, c, l, h1, k2, by omega, (div_more k4 (by omega)).trans h4⟩
theorem C.anti {p q : TPrefix} (h : C p q) (e : p.N = q.N) : p = q := by
  obtain ⟨a, n, b, m, h1, h2, h3, h4⟩ := h
  have e2 : n = m := by have := h1.hN; have := h2.hN; omega
  subst e2
  have := align h1.al; have e3 := align h2.al
  rw [h4, this] at e3
  have hA := h1.hA; have hA' := h2.hA
  cases p; cases q
  simp only at *
  subst e3; simp [hA, hA', e]
theorem C.lt {p q : TPrefix} (h : C p q) (e : p ≠ q) : p.N < q.N := by
  have := h.le
  by_cases h1 : p.N = q.N
  · exact absurd (h.anti h1) e
  · omega
/-- Two that cover a third: one covers the other. -/
theorem C.comp {p q r : TPrefix} (h : C p r) (k : C q r) (e : p.N ≤ q.N) : C p q := by
  obtain ⟨a, n, b, m, h1, h2, h3, h4⟩ := h
  obtain ⟨c, l, b', m', k1, k2, k3, k4⟩ := k
  obtain ⟨rfl, rfl⟩ := h2.same k2
  have hl : n ≤ l := by have := h1.hN; have := k1.hN; omega
  exact ⟨a, n, c, l, h1, k1, hl, (div_more k4.symm (by omega)).trans h4⟩

/-- Stands ahead of. -/
def Ls (p q : TPrefix) : Prop := p.A < q.A ∨ (p.A = q.A ∧ p.N < q.N)
theorem less_Ls {p q : TPrefix} : F21_crossroadsref03_Less p q = true ↔ Ls p q := by
  unfold F21_crossroadsref03_Less Ls
  simp
theorem Ls.irr {p : TPrefix} : ¬ Ls p p := by unfold Ls; omega
theorem Ls.trans {p q r : TPrefix} (h : Ls p q) (k : Ls q r) : Ls p r := by unfold Ls at *; omega
theorem Ls.asymm {p q : TPrefix} (h : Ls p q) : ¬ Ls q p := by unfold Ls at *; omega
theorem Ls.ne {p q : TPrefix} (h : Ls p q) : p ≠ q := by rintro rfl; exact Ls.irr h
theorem Ls.tri {p q : TPrefix} (h : p ≠ q) : Ls p q ∨ Ls q p := by
  by_cases h1 : p.A = q.A
  · by_cases h2 : p.N = q.N
    · cases p; cases q; simp_all
    · unfold Ls; omega
  · unfold Ls; omega

theorem C.ls {p q : TPrefix} (h : C p q) (e : p ≠ q) : Ls p q := by
  have hn := h.lt e
  obtain ⟨a, n, b, m, h1, h2, h3, h4⟩ := h
  have : a ≤ b := by
    have e1 := align h1.al
    rw [← h4] at e1
    have := Nat.div_mul_le_self b (2 ^ (32 - n))
    omega
  have := h1.hA; have := h2.hA
  unfold Ls
  omega

/-! ### Sides -/

theorem V.le {p : TPrefix} (h : V p) : 0 ≤ p.N ∧ p.N ≤ 32 := by
  obtain ⟨a, n, h⟩ := h
  have := h.hN; have := h.le; omega

def tabS : List Nat := [0, 1, 2, 2, 3, 3, 3, 3, 4, 4, 4, 4, 4, 4, 4, 4, 5, 5, 5, 5, 5, 5, 5, 5, 5, 5, 5, 5, 5, 5, 5, 5, 6, 6, 6, 6, 6, 6, 6, 6, 6, 6, 6, 6, 6, 6, 6, 6, 6, 6, 6, 6, 6, 6, 6, 6, 6, 6, 6, 6, 6, 6, 6, 6, 7, 7, 7, 7, 7, 7, 7, 7, 7, 7, 7, 7, 7, 7, 7, 7, 7, 7, 7, 7, 7, 7, 7, 7, 7, 7, 7, 7, 7, 7, 7, 7, 7, 7, 7, 7, 7, 7, 7, 7, 7, 7, 7, 7, 7, 7, 7, 7, 7, 7, 7, 7, 7, 7, 7, 7, 7, 7, 7, 7, 7, 7, 7, 7, 8, 8, 8, 8, 8, 8, 8, 8, 8, 8, 8, 8, 8, 8, 8, 8, 8, 8, 8, 8, 8, 8, 8, 8, 8, 8, 8, 8, 8, 8, 8, 8, 8, 8, 8, 8, 8, 8, 8, 8, 8, 8, 8, 8, 8, 8, 8, 8, 8, 8, 8, 8, 8, 8, 8, 8, 8, 8, 8, 8, 8, 8, 8, 8, 8, 8, 8, 8, 8, 8, 8, 8, 8, 8, 8, 8, 8, 8, 8, 8, 8, 8, 8, 8, 8, 8, 8, 8, 8, 8, 8, 8, 8, 8, 8, 8, 8, 8, 8, 8, 8, 8, 8, 8, 8, 8, 8, 8, 8, 8, 8, 8, 8, 8, 8, 8, 8, 8, 8, 8, 8, 8, 8, 8, 8, 8, 8, 8]

/-- How many bits a byte has. -/
theorem tabS_all : ∀ b : Fin 256, strAt (bstr tabS) ((b.val : Nat) : Int) ≤ 8 ∧ 0 ≤ strAt (bstr tabS) ((b.val : Nat) : Int) ∧ b.val / 2 ^ (strAt (bstr tabS) ((b.val : Nat) : Int)).toNat = 0 ∧ (b.val ≠ 0 → 0 < strAt (bstr tabS) ((b.val : Nat) : Int) ∧ b.val / 2 ^ ((strAt (bstr tabS) ((b.val : Nat) : Int)).toNat - 1) = 1) := by decide +kernel

theorem tabS_spec {b : Nat} (h : b < 256) : ∃ k : Nat, strAt (bstr tabS) (IntKind.u8.wrap (b : Int)) = k ∧ k ≤ 8 ∧ b / 2 ^ k = 0 ∧ (b ≠ 0 → 0 < k ∧ b / 2 ^ (k - 1) = 1) := by
  have e : IntKind.u8.wrap (b : Int) = b := by
    have h3 : (2 : Int) ^ IntKind.u8.bits = 256 := by decide
    have h5 : IntKind.u8.signed = false := rfl
    simp only [IntKind.wrap, h3, h5, Bool.false_and, Bool.false_eq_true, if_false]
    omega
  rw [e]
  obtain ⟨h1, h2, h3, h4⟩ := tabS_all ⟨b, h⟩
  simp only at h1 h2 h3 h4
  refine ⟨(strAt (bstr tabS) (b : Int)).toNat, by omega, by omega, h3, fun hb => ?_⟩
  obtain ⟨h5, h6⟩ := h4 hb
  exact ⟨by omega, h6⟩

theorem fdiv_nat (a k : Nat) : Int.fdiv (a : Int) (2 ^ k) = ((a / 2 ^ k : Nat) : Int) := by
  have e : (2 : Int) ^ k = ((2 ^ k : Nat) : Int) := by push_cast; rfl
  rw [e, Int.fdiv_eq_ediv_of_nonneg _ (Int.natCast_nonneg _)]
  rfl

set_option maxRecDepth 100000 in
theorem len32_eq (x : Int) : F50_bits_Len32 x = (bif decide (65536 ≤ x) then
    (bif decide (256 ≤ (Int.fdiv x (2 ^ 16))) then
      IntKind.i64.wrap (24 + (IntKind.i64.wrap (strAt (bstr tabS) (IntKind.u8.wrap (Int.fdiv (Int.fdiv x (2 ^ 16)) (2 ^ 8))))))
    else
      IntKind.i64.wrap (16 + (IntKind.i64.wrap (strAt (bstr tabS) (IntKind.u8.wrap (Int.fdiv x (2 ^ 16)))))))
  else
    (bif decide (256 ≤ x) then
      IntKind.i64.wrap (8 + (IntKind.i64.wrap (strAt (bstr tabS) (IntKind.u8.wrap (Int.fdiv x (2 ^ 8))))))
    else
      IntKind.i64.wrap (0 + (IntKind.i64.wrap (strAt (bstr tabS) (IntKind.u8.wrap x)))))) := by
  delta F50_bits_Len32 tabS
  rfl

theorem len_key {x : Nat} (s : Nat) (z : Int) (hz : z = s) (y : Nat) (hy : y = x / 2 ^ s) (hlt : y < 256) (hs : s ≤ 24) (hne : x ≠ 0 → y ≠ 0) : ∃ k : Nat, IntKind.i64.wrap (z + IntKind.i64.wrap (strAt (bstr tabS) (IntKind.u8.wrap (y : Int)))) = k ∧ k ≤ 32 ∧ x / 2 ^ k = 0 ∧ (x ≠ 0 → 0 < k ∧ x / 2 ^ (k - 1) = 1) := by
  obtain ⟨k, e, h1, h2, h3⟩ := tabS_spec hlt
  rw [e, hz, wi64 (x := (k : Int)) (by omega) (by omega), wi64 (by omega) (by omega)]
  refine ⟨s + k, by omega, by omega, ?_, fun hx0 => ?_⟩
  · rw [Nat.pow_add, ← Nat.div_div_eq_div_mul, ← hy]; exact h2
  · obtain ⟨g1, g2⟩ := h3 (hne hx0)
    refine ⟨by omega, ?_⟩
    rw [show s + k - 1 = s + (k - 1) by omega, Nat.pow_add, ← Nat.div_div_eq_div_mul, ← hy]; exact g2

/-- How many bits a number has. -/
theorem len32_spec {x : Nat} (hx : x < 4294967296) : ∃ k : Nat, F50_bits_Len32 (x : Int) = k ∧ k ≤ 32 ∧ x / 2 ^ k = 0 ∧ (x ≠ 0 → 0 < k ∧ x / 2 ^ (k - 1) = 1) := by
  rw [len32_eq]
  generalize hT : bstr tabS = T
  rw [fdiv_nat x 16, fdiv_nat x 8]
  rw [show (Int.fdiv ((x / 2 ^ 16 : Nat) : Int) (2 ^ 8)) = ((x / 2 ^ 16 / 2 ^ 8 : Nat) : Int) from fdiv_nat _ 8]
  subst hT
  by_cases h1 : 65536 ≤ x
  · have h1' : (65536 : Int) ≤ (x : Int) := by omega
    rw [decide_eq_true h1', cond_true]
    by_cases h2 : 256 ≤ x / 2 ^ 16
    · have h2' : (256 : Int) ≤ ((x / 2 ^ 16 : Nat) : Int) := by omega
      rw [decide_eq_true h2', cond_true]
      exact len_key 24 24 rfl _ (by omega) (by omega) (by omega) (by omega)
    · have h2' : ¬ (256 : Int) ≤ ((x / 2 ^ 16 : Nat) : Int) := by omega
      rw [decide_eq_false h2', cond_false]
      exact len_key 16 16 rfl _ (by omega) (by omega) (by omega) (by omega)
  · have h1' : ¬ (65536 : Int) ≤ (x : Int) := by omega
    rw [decide_eq_false h1', cond_false]
    by_cases h2 : 256 ≤ x
    · have h2' : (256 : Int) ≤ (x : Int) := by omega
      rw [decide_eq_true h2', cond_true]
      exact len_key 8 8 rfl _ (by omega) (by omega) (by omega) (by omega)
    · have h2' : ¬ (256 : Int) ≤ (x : Int) := by omega
      rw [decide_eq_false h2', cond_false]
      exact len_key 0 0 rfl x (by omega) (by omega) (by omega) (by omega)

theorem xor_div {a b k : Nat} : (a ^^^ b) / 2 ^ k = (a / 2 ^ k) ^^^ (b / 2 ^ k) := by
  apply Nat.eq_of_testBit_eq
  intro i
  simp [Nat.testBit_div_two_pow, Nat.testBit_xor]

theorem xor_u32 {a b : Nat} (ha : a < 4294967296) (hb : b < 4294967296) : bit_xor .u32 (a : Int) (b : Int) = ((a ^^^ b : Nat) : Int) ∧ a ^^^ b < 4294967296 := by
  have h3 : a ^^^ b < 4294967296 := Nat.xor_lt_two_pow (n := 32) ha hb
  refine ⟨?_, h3⟩
  unfold bit_xor
  have h5 : IntKind.u32.signed = false := rfl
  simp only [h5, Bool.false_eq_true, if_false, BitVec.toNat_xor, ofInt32 ha, ofInt32 hb]
  exact wu32 (by omega) (by omega)

theorem xor_zero {a b : Nat} (h : a ^^^ b = 0) : a = b := by
  apply Nat.eq_of_testBit_eq
  intro i
  have := congrArg (fun x => x.testBit i) h
  simpa [Nat.testBit_xor] using this

theorem min3 (x y z : Nat) : min_ (min_ (x : Int) (y : Int)) (z : Int) = ((min (min x y) z : Nat) : Int) := by
  unfold min_
  split <;> split <;> omega


end Go.Proofs.YtkdhongicibhbaaDoor.Abs
