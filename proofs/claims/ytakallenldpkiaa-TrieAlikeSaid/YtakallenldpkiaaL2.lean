/- Prefixes: what covers what, in which order they stand, and what two have in common. Plain law: no program in sight. -/
import Derived.Test.YtakallenldpkiaaL1
import Derived.KernelRfl
set_option linter.unusedVariables false
set_option linter.unusedSimpArgs false
namespace Go.Proofs.Ytakallenldpkiaa.Abs
open Go

/-- A prefix that may be: its numbers. -/
structure PV (p : TPrefix) (a n : Nat) : Prop where
  hA : p.A = a
  hN : p.N = n
  lt : a < 4294967296
  le : n ≤ 32
  al : a % 2 ^ (32 - n) = 0

def V (p : TPrefix) : Prop := ∃ a n, PV p a n

theorem may_V {p : TPrefix} (h : InK .u32 p.A) : F30_addr_May p = true ↔ V p := by
  rw [addrMay_iff h]
  constructor
  · rintro ⟨a, n, h1, h2, h3, h4, h5⟩; exact ⟨a, n, h1, h2, h3, h4, h5⟩
  · rintro ⟨a, n, h1, h2, h3, h4, h5⟩; exact ⟨a, n, h1, h2, h3, h4, h5⟩

theorem inK32 {a : Nat} (h : a < 4294967296) : InK .u32 (a : Int) := by
  have e1 : IntKind.u32.min = 0 := by decide
  have e2 : IntKind.u32.max = 4294967295 := by decide
  unfold InK; rw [e1, e2]; omega

theorem V.inK {p : TPrefix} (h : V p) : InK .u32 p.A := by
  obtain ⟨a, n, h⟩ := h
  rw [h.hA]; exact inK32 h.lt

/-- One covers another. -/
def C (p q : TPrefix) : Prop := ∃ a n b m, PV p a n ∧ PV q b m ∧ n ≤ m ∧ b / 2 ^ (32 - n) = a / 2 ^ (32 - n)

theorem C.left {p q : TPrefix} (h : C p q) : V p := by obtain ⟨a, n, b, m, h1, _⟩ := h; exact ⟨a, n, h1⟩
theorem C.right {p q : TPrefix} (h : C p q) : V q := by obtain ⟨a, n, b, m, _, h1, _⟩ := h; exact ⟨b, m, h1⟩

theorem PV.same {p : TPrefix} {a b n m : Nat} (h : PV p a n) (k : PV p b m) : a = b ∧ n = m := by
  have := h.hA; have := k.hA; have := h.hN; have := k.hN
  omega

theorem align {a k : Nat} (h : a % 2 ^ k = 0) : a / 2 ^ k * 2 ^ k = a := Nat.div_mul_cancel (Nat.dvd_of_mod_eq_zero h)

theorem has_C {p : TPrefix} {b : Nat} (hb : b < 4294967296) (h : InK .u32 p.A) : F46_addr_Has p b = true ↔ ∃ a n, PV p a n ∧ b / 2 ^ (32 - n) = a / 2 ^ (32 - n) := by
  unfold F46_addr_Has
  simp only [Bool.and_eq_true, decide_eq_true_eq]
  rw [may_V h]
  constructor
  · rintro ⟨⟨a, n, hp⟩, h2⟩
    refine ⟨a, n, hp, ?_⟩
    unfold F40_addr_Mask at h2
    rw [hp.hN, mask_eq hp.le, and_mask hb hp.le, hp.hA] at h2
    have h3 : b / 2 ^ (32 - n) * 2 ^ (32 - n) = a := by exact_mod_cast h2
    rw [← h3, Nat.mul_div_cancel _ (Nat.two_pow_pos _)]
  · rintro ⟨a, n, hp, h2⟩
    refine ⟨⟨a, n, hp⟩, ?_⟩
    unfold F40_addr_Mask
    rw [hp.hN, mask_eq hp.le, and_mask hb hp.le, hp.hA, h2, align hp.al]

theorem covers_C {p q : TPrefix} (hp : InK .u32 p.A) (hq : InK .u32 q.A) : F34_addr_Covers p q = true ↔ C p q := by
  unfold F34_addr_Covers
  simp only [Bool.and_eq_true, decide_eq_true_eq]
  rw [may_V hq]
  constructor
  · rintro ⟨⟨b, m, hq'⟩, h2, h3⟩
    rw [hq'.hA] at h3
    obtain ⟨a, n, hp', h4⟩ := (has_C hq'.lt hp).1 h3
    refine ⟨a, n, b, m, hp', hq', ?_, h4⟩
    have := hp'.hN; have := hq'.hN; omega
  · rintro ⟨a, n, b, m, hp', hq', h2, h3⟩
    refine ⟨⟨b, m, hq'⟩, ?_, ?_⟩
    · have := hp'.hN; have := hq'.hN; omega
    · rw [hq'.hA]; exact (has_C hq'.lt hp).2 ⟨a, n, hp', h3⟩

/-- The same from k on, so from any later on. -/
theorem div_more {a b k l : Nat} (h : a / 2 ^ k = b / 2 ^ k) (hl : k ≤ l) : a / 2 ^ l = b / 2 ^ l := by
  obtain ⟨d, rfl⟩ := Nat.exists_eq_add_of_le hl
  rw [Nat.pow_add, ← Nat.div_div_eq_div_mul, ← Nat.div_div_eq_div_mul, h]
theorem div_half {a k : Nat} : a / 2 ^ (k + 1) = a / 2 ^ k / 2 := by
  rw [Nat.pow_succ, Nat.div_div_eq_div_mul]
theorem div_lt_lt {a b k : Nat} (h : a / 2 ^ k < b / 2 ^ k) : a < b := by
  apply Nat.lt_of_not_le
  intro hl
  exact absurd (Nat.div_le_div_right (c := 2 ^ k) hl) (by omega)

theorem C.refl {p : TPrefix} (h : V p) : C p p := by
  obtain ⟨a, n, h⟩ := h
  exact ⟨a, n, a, n, h, h, Nat.le_refl _, rfl⟩
theorem C.le {p q : TPrefix} (h : C p q) : p.N ≤ q.N := by
  obtain ⟨a, n, b, m, h1, h2, h3, _⟩ := h
  rw [h1.hN, h2.hN]; omega
theorem C.trans {p q r : TPrefix} (h : C p q) (k : C q r) : C p r := by
  obtain ⟨a, n, b, m, h1, h2, h3, h4⟩ := h
  obtain ⟨b', m', c, l, k1, k2, k3, k4⟩ := k
  obtain ⟨rfl, rfl⟩ := h2.same k1
  exact ⟨a, n, c, l, h1, k2, by omega, (div_more k4 (by omega)).trans h4⟩
theorem C.anti {p q : TPrefix} (h : C p q) (e : p.N = q.N) : p = q := by
  obtain ⟨a, n, b, m, h1, h2, h3, h4⟩ := h
  have e2 : n = m := by have := h1.hN; have := h2.hN; omega
  subst e2
  have := align h1.al; have e3 := align h2.al
  rw [h4, this] at e3
  have hA := h1.hA; have hA' := h2.hA
  cases p; cases q
  simp only at *
  subst e3; simp [hA, hA', e]
theorem C.lt {p q : TPrefix} (h : C p q) (e : p ≠ q) : p.N < q.N := by
  have := h.le
  by_cases h1 : p.N = q.N
  · exact absurd (h.anti h1) e
  · omega
/-- Two that cover a third: one covers the other. -/
theorem C.comp {p q r : TPrefix} (h : C p r) (k : C q r) (e : p.N ≤ q.N) : C p q := by
  obtain ⟨a, n, b, m, h1, h2, h3, h4⟩ := h
  obtain ⟨c, l, b', m', k1, k2, k3, k4⟩ := k
  obtain ⟨rfl, rfl⟩ := h2.same k2
  have hl : n ≤ l := by have := h1.hN; have := k1.hN; omega
  exact ⟨a, n, c, l, h1, k1, hl, (div_more k4.symm (by omega)).trans h4⟩

/-- Stands ahead of. -/
def Ls (p q : TPrefix) : Prop := p.A < q.A ∨ (p.A = q.A ∧ p.N < q.N)
theorem less_Ls {p q : TPrefix} : F29_crossroadsref03_Less p q = true ↔ Ls p q := by
  unfold F29_crossroadsref03_Less Ls
  simp
theorem Ls.irr {p : TPrefix} : ¬ Ls p p := by unfold Ls; omega
theorem Ls.trans {p q r : TPrefix} (h : Ls p q) (k : Ls q r) : Ls p r := by unfold Ls at *; omega
theorem Ls.asymm {p q : TPrefix} (h : Ls p q) : ¬ Ls q p := by unfold Ls at *; omega
theorem Ls.ne {p q : TPrefix} (h : Ls p q) : p ≠ q := by rintro rfl; exact Ls.irr h
theorem Ls.tri {p q : TPrefix} (h : p ≠ q) : Ls p q ∨ Ls q p := by
  by_cases h1 : p.A = q.A
  · by_cases h2 : p.N = q.N
    · cases p; cases q; simp_all
    · unfold Ls; omega
  · unfold Ls; omega

theorem C.ls {p q : TPrefix} (h : C p q) (e : p ≠ q) : Ls p q := by
  have hn := h.lt e
  obtain ⟨a, n, b, m, h1, h2, h3, h4⟩ := h
  have : a ≤ b := by
    have e1 := align h1.al
    rw [← h4] at e1
    have := Nat.div_mul_le_self b (2 ^ (32 - n))
    omega
  have := h1.hA; have := h2.hA
  unfold Ls
  omega

/-! ### Sides -/

theorem side_eq {p q : TPrefix} {n b : Nat} (hn : p.N = n) (hn' : n < 32) (hb : q.A = b) (hlt : b < 4294967296) : F43_trie_side p q = ((b / 2 ^ (31 - n) % 2 : Nat) : Int) := by
  unfold F43_trie_side F47_addr_Bit
  rw [hn, hb]
  have h1 : ¬ ((n : Int) < 0) := by omega
  have h2 : ¬ ((32 : Int) ≤ (n : Int)) := by omega
  simp only [h1, h2, decide_false, cond_false]
  have e := bit_eq hlt hn'
  have e2 : IntKind.u64.wrap (IntKind.i64.wrap (31 - (n : Int))) = IntKind.i64.wrap (31 - (n : Int)) := by
    rw [wi64 (by omega) (by omega)]; exact wu64 (by omega) (by omega)
  rw [e2] at e
  rw [e, Nat.testBit_eq_decide_div_mod_eq]
  have := Nat.mod_two_eq_zero_or_one (b / 2 ^ (31 - n))
  rcases this with h | h <;> rw [h] <;> rfl

theorem side01 (p q : TPrefix) (hp : V p) (hq : V q) (h : p.N < 32) : F43_trie_side p q = 0 ∨ F43_trie_side p q = 1 := by
  obtain ⟨a, n, hp⟩ := hp
  obtain ⟨b, m, hq⟩ := hq
  rw [side_eq hp.hN (by have := hp.hN; omega) hq.hA hq.lt]
  have := Nat.mod_two_eq_zero_or_one (b / 2 ^ (31 - n))
  omega

/-- Below a prefix, on a side. -/
structure Un (x : TPrefix) (s : Int) (q : TPrefix) : Prop where
  c : C x q
  lt : x.N < q.N
  sd : F43_trie_side x q = s

theorem V.le {p : TPrefix} (h : V p) : 0 ≤ p.N ∧ p.N ≤ 32 := by
  obtain ⟨a, n, h⟩ := h
  have := h.hN; have := h.le; omega

/-- All that one covers stands on its side. -/
theorem side_same {p q r : TPrefix} (hp : V p) (h : C q r) (hn : p.N < q.N) : F43_trie_side p q = F43_trie_side p r := by
  obtain ⟨a, n, hp⟩ := hp
  obtain ⟨b, m, c, l, h1, h2, h3, h4⟩ := h
  have e1 := hp.hN; have e2 := h1.hN; have := h1.le
  have hn' : n < 32 := by omega
  rw [side_eq e1 hn' h1.hA h1.lt, side_eq e1 hn' h2.hA h2.lt, div_more h4 (by omega)]

theorem Un.down {x q r : TPrefix} {s : Int} (h : Un x s q) (k : C q r) : Un x s r :=
  ⟨h.c.trans k, Int.lt_of_lt_of_le h.lt k.le, (side_same h.c.left k h.lt).symm.trans h.sd⟩

theorem Un.ls {x q r : TPrefix} (h : Un x 0 q) (k : Un x 1 r) : Ls q r := by
  obtain ⟨⟨a, n, b, m, h1, h2, h3, h4⟩, hl, hs⟩ := h
  obtain ⟨⟨a', n', c, l, k1, k2, k3, k4⟩, kl, ks⟩ := k
  obtain ⟨rfl, rfl⟩ := h1.same k1
  have hn : n < 32 := by have := h2.le; have := h1.hN; have := h2.hN; omega
  rw [side_eq h1.hN hn h2.hA h2.lt] at hs
  rw [side_eq h1.hN hn k2.hA k2.lt] at ks
  have e := h4.trans k4.symm
  have e1 : 32 - n = (31 - n) + 1 := by omega
  rw [e1, div_half, div_half] at e
  have : b < c := div_lt_lt (k := 31 - n) (by omega)
  have := h2.hA; have := k2.hA
  unfold Ls; omega

theorem Un.apart {x q r : TPrefix} (h : Un x 0 q) (k : Un x 1 r) : ¬ C q r ∧ ¬ C r q := by
  constructor
  · intro e
    have := (h.down e).sd
    rw [k.sd] at this; cases this
  · intro e
    have := (k.down e).sd
    rw [h.sd] at this; cases this

/-! ### What two have in common -/

def tabS : List Nat := [0, 1, 2, 2, 3, 3, 3, 3, 4, 4, 4, 4, 4, 4, 4, 4, 5, 5, 5, 5, 5, 5, 5, 5, 5, 5, 5, 5, 5, 5, 5, 5, 6, 6, 6, 6, 6, 6, 6, 6, 6, 6, 6, 6, 6, 6, 6, 6, 6, 6, 6, 6, 6, 6, 6, 6, 6, 6, 6, 6, 6, 6, 6, 6, 7, 7, 7, 7, 7, 7, 7, 7, 7, 7, 7, 7, 7, 7, 7, 7, 7, 7, 7, 7, 7, 7, 7, 7, 7, 7, 7, 7, 7, 7, 7, 7, 7, 7, 7, 7, 7, 7, 7, 7, 7, 7, 7, 7, 7, 7, 7, 7, 7, 7, 7, 7, 7, 7, 7, 7, 7, 7, 7, 7, 7, 7, 7, 7, 8, 8, 8, 8, 8, 8, 8, 8, 8, 8, 8, 8, 8, 8, 8, 8, 8, 8, 8, 8, 8, 8, 8, 8, 8, 8, 8, 8, 8, 8, 8, 8, 8, 8, 8, 8, 8, 8, 8, 8, 8, 8, 8, 8, 8, 8, 8, 8, 8, 8, 8, 8, 8, 8, 8, 8, 8, 8, 8, 8, 8, 8, 8, 8, 8, 8, 8, 8, 8, 8, 8, 8, 8, 8, 8, 8, 8, 8, 8, 8, 8, 8, 8, 8, 8, 8, 8, 8, 8, 8, 8, 8, 8, 8, 8, 8, 8, 8, 8, 8, 8, 8, 8, 8, 8, 8, 8, 8, 8, 8, 8, 8, 8, 8, 8, 8, 8, 8, 8, 8, 8, 8, 8, 8, 8, 8, 8, 8]

/-- How many bits a byte has. -/
theorem tabS_all : ∀ b : Fin 256, strAt (bstr tabS) ((b.val : Nat) : Int) ≤ 8 ∧ 0 ≤ strAt (bstr tabS) ((b.val : Nat) : Int) ∧ b.val / 2 ^ (strAt (bstr tabS) ((b.val : Nat) : Int)).toNat = 0 ∧ (b.val ≠ 0 → 0 < strAt (bstr tabS) ((b.val : Nat) : Int) ∧ b.val / 2 ^ ((strAt (bstr tabS) ((b.val : Nat) : Int)).toNat - 1) = 1) := by decide +kernel

theorem tabS_spec {b : Nat} (h : b < 256) : ∃ k : Nat, strAt (bstr tabS) (IntKind.u8.wrap (b : Int)) = k ∧ k ≤ 8 ∧ b / 2 ^ k = 0 ∧ (b ≠ 0 → 0 < k ∧ b / 2 ^ (k - 1) = 1) := by
  have e : IntKind.u8.wrap (b : Int) = b := by
    have h3 : (2 : Int) ^ IntKind.u8.bits = 256 := by decide
    have h5 : IntKind.u8.signed = false := rfl
    simp only [IntKind.wrap, h3, h5, Bool.false_and, Bool.false_eq_true, if_false]
    omega
  rw [e]
  obtain ⟨h1, h2, h3, h4⟩ := tabS_all ⟨b, h⟩
  simp only at h1 h2 h3 h4
  refine ⟨(strAt (bstr tabS) (b : Int)).toNat, by omega, by omega, h3, fun hb => ?_⟩
  obtain ⟨h5, h6⟩ := h4 hb
  exact ⟨by omega, h6⟩

theorem fdiv_nat (a k : Nat) : Int.fdiv (a : Int) (2 ^ k) = ((a / 2 ^ k : Nat) : Int) := by
  have e : (2 : Int) ^ k = ((2 ^ k : Nat) : Int) := by push_cast; rfl
  rw [e, Int.fdiv_eq_ediv_of_nonneg _ (Int.natCast_nonneg _)]
  rfl

set_option maxRecDepth 100000 in
theorem len32_eq (x : Int) : F49_bits_Len32 x = (bif decide (65536 ≤ x) then
    (bif decide (256 ≤ (Int.fdiv x (2 ^ 16))) then
      IntKind.i64.wrap (24 + (IntKind.i64.wrap (strAt (bstr tabS) (IntKind.u8.wrap (Int.fdiv (Int.fdiv x (2 ^ 16)) (2 ^ 8))))))
    else
      IntKind.i64.wrap (16 + (IntKind.i64.wrap (strAt (bstr tabS) (IntKind.u8.wrap (Int.fdiv x (2 ^ 16)))))))
  else
    (bif decide (256 ≤ x) then
      IntKind.i64.wrap (8 + (IntKind.i64.wrap (strAt (bstr tabS) (IntKind.u8.wrap (Int.fdiv x (2 ^ 8))))))
    else
      IntKind.i64.wrap (0 + (IntKind.i64.wrap (strAt (bstr tabS) (IntKind.u8.wrap x)))))) := by
  delta F49_bits_Len32 tabS
  rfl

theorem len_key {x : Nat} (s : Nat) (z : Int) (hz : z = s) (y : Nat) (hy : y = x / 2 ^ s) (hlt : y < 256) (hs : s ≤ 24) (hne : x ≠ 0 → y ≠ 0) : ∃ k : Nat, IntKind.i64.wrap (z + IntKind.i64.wrap (strAt (bstr tabS) (IntKind.u8.wrap (y : Int)))) = k ∧ k ≤ 32 ∧ x / 2 ^ k = 0 ∧ (x ≠ 0 → 0 < k ∧ x / 2 ^ (k - 1) = 1) := by
  obtain ⟨k, e, h1, h2, h3⟩ := tabS_spec hlt
  rw [e, hz, wi64 (x := (k : Int)) (by omega) (by omega), wi64 (by omega) (by omega)]
  refine ⟨s + k, by omega, by omega, ?_, fun hx0 => ?_⟩
  · rw [Nat.pow_add, ← Nat.div_div_eq_div_mul, ← hy]; exact h2
  · obtain ⟨g1, g2⟩ := h3 (hne hx0)
    refine ⟨by omega, ?_⟩
    rw [show s + k - 1 = s + (k - 1) by omega, Nat.pow_add, ← Nat.div_div_eq_div_mul, ← hy]; exact g2

/-- How many bits a number has. -/
theorem len32_spec {x : Nat} (hx : x < 4294967296) : ∃ k : Nat, F49_bits_Len32 (x : Int) = k ∧ k ≤ 32 ∧ x / 2 ^ k = 0 ∧ (x ≠ 0 → 0 < k ∧ x / 2 ^ (k - 1) = 1) := by
  rw [len32_eq]
  generalize hT : bstr tabS = T
  rw [fdiv_nat x 16, fdiv_nat x 8]
  rw [show (Int.fdiv ((x / 2 ^ 16 : Nat) : Int) (2 ^ 8)) = ((x / 2 ^ 16 / 2 ^ 8 : Nat) : Int) from fdiv_nat _ 8]
  subst hT
  by_cases h1 : 65536 ≤ x
  · have h1' : (65536 : Int) ≤ (x : Int) := by omega
    rw [decide_eq_true h1', cond_true]
    by_cases h2 : 256 ≤ x / 2 ^ 16
    · have h2' : (256 : Int) ≤ ((x / 2 ^ 16 : Nat) : Int) := by omega
      rw [decide_eq_true h2', cond_true]
      exact len_key 24 24 rfl _ (by omega) (by omega) (by omega) (by omega)
    · have h2' : ¬ (256 : Int) ≤ ((x / 2 ^ 16 : Nat) : Int) := by omega
      rw [decide_eq_false h2', cond_false]
      exact len_key 16 16 rfl _ (by omega) (by omega) (by omega) (by omega)
  · have h1' : ¬ (65536 : Int) ≤ (x : Int) := by omega
    rw [decide_eq_false h1', cond_false]
    by_cases h2 : 256 ≤ x
    · have h2' : (256 : Int) ≤ (x : Int) := by omega
      rw [decide_eq_true h2', cond_true]
      exact len_key 8 8 rfl _ (by omega) (by omega) (by omega) (by omega)
    · have h2' : ¬ (256 : Int) ≤ (x : Int) := by omega
      rw [decide_eq_false h2', cond_false]
      exact len_key 0 0 rfl x (by omega) (by omega) (by omega) (by omega)

theorem xor_div {a b k : Nat} : (a ^^^ b) / 2 ^ k = (a / 2 ^ k) ^^^ (b / 2 ^ k) := by
  apply Nat.eq_of_testBit_eq
  intro i
  simp [Nat.testBit_div_two_pow, Nat.testBit_xor]

theorem xor_u32 {a b : Nat} (ha : a < 4294967296) (hb : b < 4294967296) : bit_xor .u32 (a : Int) (b : Int) = ((a ^^^ b : Nat) : Int) ∧ a ^^^ b < 4294967296 := by
  have h3 : a ^^^ b < 4294967296 := Nat.xor_lt_two_pow (n := 32) ha hb
  refine ⟨?_, h3⟩
  unfold bit_xor
  have h5 : IntKind.u32.signed = false := rfl
  simp only [h5, Bool.false_eq_true, if_false, BitVec.toNat_xor, ofInt32 ha, ofInt32 hb]
  exact wu32 (by omega) (by omega)

theorem xor_zero {a b : Nat} (h : a ^^^ b = 0) : a = b := by
  apply Nat.eq_of_testBit_eq
  intro i
  have := congrArg (fun x => x.testBit i) h
  simpa [Nat.testBit_xor] using this

theorem min3 (x y z : Nat) : min_ (min_ (x : Int) (y : Int)) (z : Int) = ((min (min x y) z : Nat) : Int) := by
  unfold min_
  split <;> split <;> omega

theorem common_spec {p q : TPrefix} (hp : V p) (hq : V q) (h1 : ¬ C p q) (h2 : ¬ C q p) :
    ∃ c, F44_addr_Common p q = c ∧ V c ∧ C c p ∧ C c q ∧ c.N < p.N ∧ c.N < q.N ∧ F43_trie_side c p ≠ F43_trie_side c q := by
  have mp := (may_V hp.inK).2 hp
  have mq := (may_V hq.inK).2 hq
  obtain ⟨a, n, hp⟩ := hp
  obtain ⟨b, m, hq⟩ := hq
  unfold F44_addr_Common
  simp only [mp, mq, cond_true]
  rw [hp.hA, hq.hA, hp.hN, hq.hN]
  obtain ⟨e1, e2⟩ := xor_u32 hp.lt hq.lt
  rw [e1]
  unfold F48_bits_LeadingZeros32
  obtain ⟨k, e, k1, k2, k3⟩ := len32_spec e2
  rw [e]
  simp only
  rw [wi64 (x := 32 - (k : Int)) (by omega) (by omega)]
  rw [show (32 - (k : Int)) = ((32 - k : Nat) : Int) by omega, min3]
  -- they are not one
  have hz : (a ^^^ b) / 2 ^ k = 0 → a / 2 ^ k = b / 2 ^ k := by
    rw [xor_div]
    intro h
    exact xor_zero h
  have hk := hz k2
  have hne : a ^^^ b ≠ 0 := by
    intro h0
    have : a = b := xor_zero h0
    subst this
    rcases Nat.le_total n m with h | h
    · exact h1 ⟨a, n, a, m, hp, hq, h, rfl⟩
    · exact h2 ⟨a, m, a, n, hq, hp, h, rfl⟩
  obtain ⟨k4, k5⟩ := k3 hne
  have hb : a / 2 ^ (k - 1) % 2 ≠ b / 2 ^ (k - 1) % 2 := by
    intro h
    have e3 : a / 2 ^ (k - 1) = b / 2 ^ (k - 1) := by
      have e4 : k = (k - 1) + 1 := by omega
      rw [e4, div_half, div_half] at hk
      omega
    rw [xor_div, e3, Nat.xor_self] at k5
    cases k5
  have hkn : 32 - k < n := by
    apply Nat.lt_of_not_le
    intro h
    have e3 := div_more hk (l := 32 - n) (by omega)
    rcases Nat.le_total n m with hm | hm
    · exact h1 ⟨a, n, b, m, hp, hq, hm, e3.symm⟩
    · exact h2 ⟨b, m, a, n, hq, hp, hm, div_more hk (l := 32 - m) (by omega)⟩
  have hkm : 32 - k < m := by
    apply Nat.lt_of_not_le
    intro h
    have e3 := div_more hk (l := 32 - m) (by omega)
    rcases Nat.le_total n m with hm | hm
    · exact h1 ⟨a, n, b, m, hp, hq, hm, (div_more hk (l := 32 - n) (by omega)).symm⟩
    · exact h2 ⟨b, m, a, n, hq, hp, hm, e3⟩
  have hmin : min (min n m) (32 - k) = 32 - k := by omega
  rw [hmin]
  refine ⟨_, rfl, ?_⟩
  unfold F40_addr_Mask
  rw [mask_eq (by omega), and_mask hp.lt (by omega)]
  have ek : 32 - (32 - k) = k := by omega
  rw [ek]
  have hc : PV ⟨((a / 2 ^ k * 2 ^ k : Nat) : Int), ((32 - k : Nat) : Int)⟩ (a / 2 ^ k * 2 ^ k) (32 - k) :=
    ⟨rfl, rfl, Nat.lt_of_le_of_lt (Nat.div_mul_le_self _ _) hp.lt, by omega, by rw [ek]; exact Nat.mul_mod_left _ _⟩
  have hdm : a / 2 ^ k * 2 ^ k / 2 ^ k = a / 2 ^ k := Nat.mul_div_cancel _ (Nat.two_pow_pos _)
  refine ⟨⟨_, _, hc⟩, ⟨_, _, a, n, hc, hp, by omega, by rw [ek, hdm]⟩, ⟨_, _, b, m, hc, hq, by omega, by rw [ek, hdm, hk]⟩, ?_, ?_, ?_⟩
  · have := hp.hN; simp only; omega
  · have := hq.hN; simp only; omega
  · rw [side_eq (n := 32 - k) rfl (by omega) hp.hA hp.lt, side_eq (n := 32 - k) rfl (by omega) hq.hA hq.lt]
    rw [show 31 - (32 - k) = k - 1 by omega]
    intro h
    exact hb (by exact_mod_cast h)

/-- What two below one have in common lies there too. -/
theorem Un.common {x p q c : TPrefix} {s : Int} (hp : Un x s p) (hq : Un x s q) (h1 : C c p) (h2 : C c q) (hd : F43_trie_side c p ≠ F43_trie_side c q) : Un x s c := by
  have hx := hp.c.left
  have hlt : x.N < c.N := by
    apply Int.lt_of_not_ge
    intro hge
    have hcx : C c x := h1.comp hp.c hge
    by_cases e : c.N = x.N
    · have := hcx.anti e
      subst this
      rw [hp.sd, hq.sd] at hd
      exact hd rfl
    · have hl : c.N < x.N := by omega
      rw [← side_same h1.left hp.c hl, ← side_same h1.left hq.c hl] at hd
      exact hd rfl
  exact ⟨hp.c.comp h1 (by omega), hlt, (side_same hx h1 hlt).trans hp.sd⟩

end Go.Proofs.Ytakallenldpkiaa.Abs
