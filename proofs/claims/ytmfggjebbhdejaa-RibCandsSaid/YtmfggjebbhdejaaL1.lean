/- Candidates: whether they may be, their orders, as the program's and the document's; what counts of a table. Plain law: no program in sight. -/
import Derived.Test.YtmfggjebbhdejaaPu
import Derived.Test.YtmfggjebbhdejaaA23
import Derived.Test.YtmfggjebbhdejaaB1
import Derived.Test.YtmfggjebbhdejaaB2
import Derived.Test.YtmfggjebbhdejaaTy
import Derived.KernelRfl
set_option linter.unusedVariables false
set_option linter.unusedSimpArgs false
set_option maxRecDepth 100000
namespace Go.Proofs.Ytmfggjebbhdejaa.Abs
open Go

theorem u32_nat {x : Int} (h : InK .u32 x) : ∃ a : Nat, x = (a : Int) ∧ a < 4294967296 := by
  obtain ⟨h1, h2⟩ := h
  have e1 : IntKind.u32.min = 0 := by decide
  have e2 : IntKind.u32.max = 4294967295 := by decide
  rw [e1] at h1; rw [e2] at h2
  exact ⟨x.toNat, by omega, by omega⟩

theorem addrMay_iff {p : TPrefix} (h : InK .u32 p.A) : F27_addr_May p = true ↔ ∃ a n : Nat, p.A = a ∧ p.N = n ∧ a < 4294967296 ∧ n ≤ 32 ∧ a % 2 ^ (32 - n) = 0 := by
  obtain ⟨a, ha, hlt⟩ := u32_nat h
  unfold F27_addr_May F46_addr_isLong F47_addr_Mask
  simp only [Bool.and_eq_true, decide_eq_true_eq]
  constructor
  · rintro ⟨⟨h1, h2⟩, h3⟩
    obtain ⟨n, hn⟩ := Int.eq_ofNat_of_zero_le h1
    have hn32 : n ≤ 32 := by omega
    rw [hn, ha, mask_eq hn32, andNot_mask hlt hn32] at h3
    exact ⟨a, n, ha, hn, hlt, hn32, by exact_mod_cast h3⟩
  · rintro ⟨a', n, h1, h2, h3, h4, h5⟩
    have : a' = a := by omega
    subst this
    refine ⟨by omega, ?_⟩
    rw [h2, h1, mask_eq h4, andNot_mask h3 h4, h5]
    rfl

theorem bit60 {a i : Nat} (ha : a < 4294967296) (hi : i < 32) : F39_crossroadsref03_Bit (a : Int) (i : Int) = if a.testBit (31 - i) then 1 else 0 := by
  unfold F39_crossroadsref03_Bit
  have h1 : ¬ ((i : Int) < 0) := by omega
  have h2 : ¬ (31 < (i : Int)) := by omega
  simp only [h1, h2, decide_false, cond_false]
  exact bit_eq ha hi

theorem may_l1 {p : TPrefix} {a : Nat} (ha : p.A = a) (hlt : a < 4294967296) : ∀ (fuel i : Nat), i ≤ 32 → 32 - i ≤ fuel → (F28_crossroadsref03_May_l1 p fuel i = .ok () ∧ (∀ j, i ≤ j → j < 32 → a.testBit (31 - j) = false)) ∨ (F28_crossroadsref03_May_l1 p fuel i = .error false ∧ ∃ j, i ≤ j ∧ j < 32 ∧ a.testBit (31 - j) = true)
  | fuel, i, hi, hf => by
    unfold F28_crossroadsref03_May_l1
    by_cases h : i < 32
    · have h' : (i : Int) < 32 := by omega
      match fuel, hf with
      | 0, hf => exact absurd hf (by omega)
      | fuel + 1, hf =>
        simp only [h', decide_true, cond_true]
        rw [ha, bit60 hlt h]
        cases hb : a.testBit (31 - i) with
        | true => right; exact ⟨by simp, i, Nat.le_refl _, h, hb⟩
        | false =>
          have e : IntKind.i64.wrap ((i : Int) + 1) = ((i + 1 : Nat) : Int) := by rw [wi64 (by omega) (by omega)]; omega
          rw [e]
          have ih := may_l1 ha hlt fuel (i + 1) (by omega) (by omega)
          rcases ih with ⟨h1, h2⟩ | ⟨h1, j, h2, h3, h4⟩
          · left
            refine ⟨by simpa using h1, fun j hj hj' => ?_⟩
            rcases Nat.eq_or_lt_of_le hj with rfl | hlt'
            · exact hb
            · exact h2 j hlt' hj'
          · right
            exact ⟨by simpa using h1, j, by omega, h3, h4⟩
    · have h' : ¬ ((i : Int) < 32) := by omega
      simp only [h', decide_false, cond_false]
      left
      exact ⟨trivial, fun j hj hj' => by omega⟩

theorem fuel_nat {i B : Nat} (hi : i ≤ 4294967296) (hB : B ≤ 4294967296) : fuelUp (i : Int) (B : Int) = B - i := by
  unfold fuelUp
  rw [if_pos (by omega)]
  omega

theorem refMay_iff {p : TPrefix} (h : InK .u32 p.A) : F28_crossroadsref03_May p = true ↔ ∃ a n : Nat, p.A = a ∧ p.N = n ∧ a < 4294967296 ∧ n ≤ 32 ∧ a % 2 ^ (32 - n) = 0 := by
  obtain ⟨a, ha, hlt⟩ := u32_nat h
  unfold F28_crossroadsref03_May
  by_cases h1 : p.N < 0
  · simp only [h1, decide_true, cond_true]
    simp only [Bool.false_eq_true, false_iff]
    rintro ⟨_, n, _, h2, _⟩
    omega
  · by_cases h2 : 32 < p.N
    · simp only [h1, h2, decide_true, decide_false, cond_true, cond_false]
      simp only [Bool.false_eq_true, false_iff]
      rintro ⟨_, n, _, h2, _, h3, _⟩
      omega
    · simp only [h1, h2, decide_false, cond_false]
      obtain ⟨n, hn⟩ := Int.eq_ofNat_of_zero_le (show 0 ≤ p.N by omega)
      have hn32 : n ≤ 32 := by omega
      have hz : (∀ j, n ≤ j → j < 32 → a.testBit (31 - j) = false) ↔ a % 2 ^ (32 - n) = 0 := by
        rw [low_zero]
        constructor
        · intro h j hj
          have := h (31 - j) (by omega) (by omega)
          rwa [show 31 - (31 - j) = j by omega] at this
        · intro h j hj hj'
          exact h _ (by omega)
      have hf : fuelUp p.N 32 = 32 - n := by rw [hn]; exact fuel_nat (B := 32) (by omega) (by decide)
      rw [hf, hn]
      rcases may_l1 ha hlt (32 - n) n hn32 (Nat.le_refl _) with ⟨k1, k2⟩ | ⟨k1, j, k2, k3, k4⟩
      · rw [k1]
        simp only [true_iff]
        exact ⟨a, n, ha, rfl, hlt, hn32, hz.1 k2⟩
      · rw [k1]
        simp only [Bool.false_eq_true, false_iff]
        rintro ⟨a', n', g1, g2, g3, g4, g5⟩
        have e1 : a' = a := by omega
        have e2 : n' = n := by omega
        subst e1 e2
        have := hz.2 g5 j k2 k3
        rw [k4] at this
        cases this

theorem may_same {p : TPrefix} (h : InK .u32 p.A) : F27_addr_May p = F28_crossroadsref03_May p := by
  rw [Bool.eq_iff_iff, addrMay_iff h, refMay_iff h]

theorem has_l1 {p : TPrefix} {a b n : Nat} (hp : p.A = a) (hn : p.N = n) (hn32 : n ≤ 32) (ha : a < 4294967296) (hb : b < 4294967296) : ∀ (fuel i : Nat), i ≤ n → n - i ≤ fuel →
    (F20_crossroadsref03_Has_l1 p b fuel i = .ok () ∧ (∀ j, i ≤ j → j < n → a.testBit (31 - j) = b.testBit (31 - j))) ∨ (F20_crossroadsref03_Has_l1 p b fuel i = .error false ∧ ∃ j, i ≤ j ∧ j < n ∧ a.testBit (31 - j) ≠ b.testBit (31 - j))
  | fuel, i, hi, hf => by
    unfold F20_crossroadsref03_Has_l1
    by_cases h : i < n
    · have h' : (i : Int) < p.N := by omega
      match fuel, hf with
      | 0, hf => exact absurd hf (by omega)
      | fuel + 1, hf =>
        simp only [h', decide_true, cond_true]
        rw [hp, bit60 ha (by omega), bit60 hb (by omega)]
        by_cases hbit : a.testBit (31 - i) = b.testBit (31 - i)
        · rw [hbit]
          have e : IntKind.i64.wrap ((i : Int) + 1) = ((i + 1 : Nat) : Int) := by rw [wi64 (by omega) (by omega)]; omega
          rw [e]
          have ih := has_l1 hp hn hn32 ha hb fuel (i + 1) (by omega) (by omega)
          rcases ih with ⟨h1, h2⟩ | ⟨h1, j, h2, h3, h4⟩
          · left
            refine ⟨by simpa using h1, fun j hj hj' => ?_⟩
            rcases Nat.eq_or_lt_of_le hj with rfl | hlt'
            · exact hbit
            · exact h2 j hlt' hj'
          · right
            exact ⟨by simpa using h1, j, by omega, h3, h4⟩
        · right
          refine ⟨?_, i, Nat.le_refl _, h, hbit⟩
          cases h1 : a.testBit (31 - i) <;> cases h2 : b.testBit (31 - i) <;> simp_all
    · have h' : ¬ ((i : Int) < p.N) := by omega
      simp only [h', decide_false, cond_false]
      left
      exact ⟨trivial, fun j hj hj' => by omega⟩

/-- Has, of prefixes that may be. -/
theorem has_same {p : TPrefix} {x : Int} (h : InK .u32 p.A) (hx : InK .u32 x) : F37_addr_Has p x = F20_crossroadsref03_Has p x := by
  unfold F37_addr_Has F20_crossroadsref03_Has
  rw [may_same h]
  cases hm : F28_crossroadsref03_May p with
  | false => rfl
  | true =>
    obtain ⟨a, n, h1, h2, h3, h4, h5⟩ := (refMay_iff h).1 hm
    obtain ⟨b, rfl, hb⟩ := u32_nat hx
    simp only [Bool.true_and]
    unfold F47_addr_Mask
    have hf : fuelUp 0 p.N = n := by rw [h2]; exact fuel_nat (i := 0) (by omega) (by omega)
    rw [hf, h2, mask_eq h4, and_mask hb h4]
    have key : (b / 2 ^ (32 - n) * 2 ^ (32 - n) = a) ↔ ∀ j, 0 ≤ j → j < n → a.testBit (31 - j) = b.testBit (31 - j) := by
      have e : a / 2 ^ (32 - n) * 2 ^ (32 - n) = a := Nat.div_mul_cancel (Nat.dvd_of_mod_eq_zero h5)
      have e2 : (b / 2 ^ (32 - n) * 2 ^ (32 - n) = a) ↔ a / 2 ^ (32 - n) = b / 2 ^ (32 - n) := by
        constructor
        · intro g
          rw [← g, Nat.mul_div_cancel _ (Nat.two_pow_pos _)]
        · intro g
          rw [← g, e]
      rw [e2, high_same h3 hb]
      constructor
      · intro g j _ hj
        exact g _ (by omega) (by omega)
      · intro g j hj hj'
        have := g (31 - j) (Nat.zero_le _) (by omega)
        rwa [show 31 - (31 - j) = j by omega] at this
    rcases has_l1 h1 h2 h4 h3 hb n 0 (Nat.zero_le _) (Nat.le_refl _) with ⟨k1, k2⟩ | ⟨k1, j, k2, k3, k4⟩
    · have k1' : F20_crossroadsref03_Has_l1 p b n 0 = .ok () := k1
      rw [k1']
      have := key.2 k2
      rw [this, h1]
      simp
    · have k1' : F20_crossroadsref03_Has_l1 p b n 0 = .error false := k1
      rw [k1', h1]
      simp only [decide_eq_false_iff_not]
      intro g
      have g' : b / 2 ^ (32 - n) * 2 ^ (32 - n) = a := by exact_mod_cast g
      exact k4 (key.1 g' j k2 k3)

theorem inK32 {a : Nat} (h : a < 4294967296) : InK .u32 (a : Int) := by
  have e1 : IntKind.u32.min = 0 := by decide
  have e2 : IntKind.u32.max = 4294967295 := by decide
  unfold InK; rw [e1, e2]; omega


/-! ### Orders -/
def cmpI (x y : Int) : Int := if x < y then -1 else if y < x then 1 else 0

theorem cmp50 (x y : Int) : F50_cmp_Compare x y = cmpI x y := by
  unfold F50_cmp_Compare F57_cmp_isNaN cmpI
  by_cases h : x < y
  · simp [h]
  · by_cases h2 : y < x
    · simp [h, h2]
    · simp [h, h2]
theorem cmp49 (x y : Int) : F49_cmp_Compare x y = cmpI x y := cmp50 x y

def lexlt : List Int → List Int → Bool
  | x :: xs, y :: ys => if x < y then true else if y < x then false else lexlt xs ys
  | _, _ => false

theorem or_nil : F48_cmp_Or [] = 0 := rfl
theorem or_cons (c : Int) (l : List Int) : F48_cmp_Or (c :: l) = if c = 0 then F48_cmp_Or l else c := by
  unfold F48_cmp_Or
  rw [F48_cmp_Or_l1]
  by_cases h : c = 0
  · simp [h]
  · simp [h]

theorem or_lex : ∀ (a b : List Int), decide (F48_cmp_Or (List.zipWith cmpI a b) < 0) = lexlt a b
  | [], _ => by simp [lexlt, or_nil]
  | _ :: _, [] => by simp [lexlt, or_nil]
  | x :: xs, y :: ys => by
    rw [List.zipWith_cons_cons, or_cons, lexlt]
    unfold cmpI
    by_cases h : x < y
    · simp [h]
    · by_cases h2 : y < x
      · simp [h, h2]
      · simp only [h, h2, if_false, if_true]
        exact or_lex xs ys

def lkN (c : TCand) : Int := if c.Leaked = true then 1 else 0
def keyL (c : TCand) : List Int := [c.P.A, c.P.N, lkN c, c.From, c.Proto, c.Inst]
def rankL (c : TCand) : List Int := [c.Dist, lkN c, c.Proto, c.Metric, c.Inst, c.From]

theorem leaked_eq (c : TCand) : F51_rib_Cand_leaked c = lkN c := by
  unfold F51_rib_Cand_leaked lkN
  cases c.Leaked <;> rfl
theorem num_eq (c : TCand) : F52_crossroadsref25_num c.Leaked = lkN c := by
  unfold F52_crossroadsref25_num lkN
  cases c.Leaked <;> rfl
theorem leaked_cmp (a b : TCand) : IntKind.i64.wrap (lkN a - lkN b) = cmpI (lkN a) (lkN b) := by
  unfold lkN cmpI
  cases a.Leaked <;> cases b.Leaked <;> decide

theorem less_lex (a b : TCand) : F14_rib_Less a b = lexlt (keyL a) (keyL b) := by
  unfold F14_rib_Less F31_rib_byKey
  simp only [cmp49, cmp50, leaked_eq, leaked_cmp]
  rw [← or_lex]
  rfl
theorem better_lex (a b : TCand) : F16_rib_Better a b = lexlt (rankL a) (rankL b) := by
  unfold F16_rib_Better F34_rib_byRank
  simp only [cmp50, leaked_eq, leaked_cmp]
  rw [← or_lex]
  rfl

theorem first_lex (a b : TS) : decide (F32_crossroadsref25_first a b < 0) = lexlt [a.e0, a.e1, a.e2, a.e3, a.e4, a.e5] [b.e0, b.e1, b.e2, b.e3, b.e4, b.e5] := by
  unfold F32_crossroadsref25_first
  simp only [lexlt]
  by_cases h0 : a.e0 < b.e0
  · simp [h0]
  · by_cases g0 : b.e0 < a.e0
    · simp [h0, g0]
    · simp only [h0, g0, decide_false, cond_false, if_false]
      by_cases h1 : a.e1 < b.e1
      · simp [h1]
      · by_cases g1 : b.e1 < a.e1
        · simp [h1, g1]
        · simp only [h1, g1, decide_false, cond_false, if_false]
          by_cases h2 : a.e2 < b.e2
          · simp [h2]
          · by_cases g2 : b.e2 < a.e2
            · simp [h2, g2]
            · simp only [h2, g2, decide_false, cond_false, if_false]
              by_cases h3 : a.e3 < b.e3
              · simp [h3]
              · by_cases g3 : b.e3 < a.e3
                · simp [h3, g3]
                · simp only [h3, g3, decide_false, cond_false, if_false]
                  by_cases h4 : a.e4 < b.e4
                  · simp [h4]
                  · by_cases g4 : b.e4 < a.e4
                    · simp [h4, g4]
                    · simp only [h4, g4, decide_false, cond_false, if_false]
                      by_cases h5 : a.e5 < b.e5
                      · simp [h5]
                      · by_cases g5 : b.e5 < a.e5
                        · simp [h5, g5]
                        · simp [h5, g5]

theorem wrapA {x : Int} (h : InK .u32 x) : IntKind.i64.wrap x = x := by
  obtain ⟨a, rfl, ha⟩ := u32_nat h
  exact wi64 (by omega) (by omega)

theorem refLess_lex {a b : TCand} (ha : InK .u32 a.P.A) (hb : InK .u32 b.P.A) : F15_crossroadsref25_Less a b = lexlt (keyL a) (keyL b) := by
  unfold F15_crossroadsref25_Less
  simp only
  rw [first_lex]
  unfold F33_crossroadsref25_key keyL
  simp only [num_eq, wrapA ha, wrapA hb]
theorem refBetter_lex (a b : TCand) : F17_crossroadsref25_Better a b = lexlt (rankL a) (rankL b) := by
  unfold F17_crossroadsref25_Better
  simp only
  rw [first_lex]
  unfold F35_crossroadsref25_rank rankL
  simp only [num_eq]

/-! ### Whether they may be -/
structure MayP (c : TCand) : Prop where
  p : F27_addr_May c.P = true
  proto : 0 ≤ c.Proto ∧ c.Proto ≤ 5
  inst : 0 ≤ c.Inst ∧ c.Inst ≤ 99
  metric : 0 ≤ c.Metric
  from_ : 0 ≤ c.From ∧ c.From ≤ 31
  hops : 1 ≤ (c.Hops.length : Int) ∧ (c.Hops.length : Int) ≤ 8
  leak : c.Leaked = true ∨ c.From = 0
  d0 : c.Proto = 0 → c.Dist = 0
  d1 : c.Proto ≠ 0 → 1 ≤ c.Dist ∧ c.Dist ≤ 255

theorem may8 (c : TCand) : F8_rib_May c = true ↔ MayP c := by
  unfold F8_rib_May F26_rib_isIn
  constructor
  · intro h
    by_cases h0 : c.Proto = 0
    · by_cases hf : 0 ≤ c.From ∧ c.From ≤ 31
      · cases hl : c.Leaked with
        | true =>
          simp [h0, hf, hl] at h
          exact ⟨h.1, by omega, h.2.1, h.2.2.1, hf, by omega, .inl hl, fun _ => h.2.2.2.1, fun e => absurd h0 e⟩
        | false =>
          simp [h0, hf, hl] at h
          exact ⟨h.1, by omega, h.2.1, h.2.2.1, hf, by omega, .inr h.2.2.2.2.1, fun _ => h.2.2.2.1, fun e => absurd h0 e⟩
      · have : ((decide (0 ≤ c.From)) && (decide (c.From ≤ 31))) = false := by rw [Bool.eq_false_iff]; intro k; simp at k; exact hf k
        simp [h0, this] at h
    · by_cases hf : 0 ≤ c.From ∧ c.From ≤ 31
      · cases hl : c.Leaked with
        | true =>
          simp [h0, hf, hl] at h
          exact ⟨h.1, h.2.1, h.2.2.1, h.2.2.2.1, hf, by omega, .inl hl, fun e => absurd e h0, fun _ => h.2.2.2.2.1⟩
        | false =>
          simp [h0, hf, hl] at h
          exact ⟨h.1, h.2.1, h.2.2.1, h.2.2.2.1, hf, by omega, .inr h.2.2.2.2.2.1, fun e => absurd e h0, fun _ => h.2.2.2.2.1⟩
      · have : ((decide (0 ≤ c.From)) && (decide (c.From ≤ 31))) = false := by rw [Bool.eq_false_iff]; intro k; simp at k; exact hf k
        simp [h0, this] at h
  · rintro ⟨p, pr, ins, me, fr, ho, le, d0, d1⟩
    by_cases h0 : c.Proto = 0
    · have := d0 h0
      cases hl : c.Leaked with
      | true => simp [h0, fr, hl, p, ins, me, this]; omega
      | false =>
        have hf : c.From = 0 := by rcases le with h | h; rw [hl] at h; cases h; exact h
        simp [h0, hf, hl, p, ins, me, this]; omega
    · have := d1 h0
      cases hl : c.Leaked with
      | true => simp [h0, fr, hl, p, ins, me, this, pr]; omega
      | false =>
        have hf : c.From = 0 := by rcases le with h | h; rw [hl] at h; cases h; exact h
        simp [h0, hf, hl, p, ins, me, this, pr]; omega

theorem may9 {c : TCand} (hA : InK .u32 c.P.A) : F9_crossroadsref25_May c = true ↔ MayP c := by
  unfold F9_crossroadsref25_May F29_crossroadsref25_in
  rw [← may_same hA]
  constructor
  · intro h
    by_cases hm : c.Metric < 0
    · simp [hm] at h
    · cases hl : c.Leaked with
      | true =>
        by_cases h0 : c.Proto = 0
        · simp [hm, hl, h0] at h
          exact ⟨h.1, by omega, h.2.1, by omega, h.2.2.1, by omega, .inl hl, fun _ => h.2.2.2.2, fun e => absurd h0 e⟩
        · simp [hm, hl, h0] at h
          exact ⟨h.1, h.2.1, h.2.2.1, by omega, h.2.2.2.1, by omega, .inl hl, fun e => absurd e h0, fun _ => h.2.2.2.2.2⟩
      | false =>
        by_cases h0 : c.Proto = 0
        · simp [hm, hl, h0] at h
          exact ⟨h.1, by omega, h.2.1, by omega, h.2.2.1, by omega, .inr h.2.2.2.2.1, fun _ => h.2.2.2.2.2, fun e => absurd h0 e⟩
        · simp [hm, hl, h0] at h
          exact ⟨h.1, h.2.1, h.2.2.1, by omega, h.2.2.2.1, by omega, .inr h.2.2.2.2.2.1, fun e => absurd e h0, fun _ => h.2.2.2.2.2.2⟩
  · rintro ⟨p, pr, ins, me, fr, ho, le, d0, d1⟩
    have hm : ¬ c.Metric < 0 := by omega
    by_cases h0 : c.Proto = 0
    · have := d0 h0
      cases hl : c.Leaked with
      | true => simp [h0, fr, hl, p, ins, hm, this]; omega
      | false =>
        have hf : c.From = 0 := by rcases le with h | h; rw [hl] at h; cases h; exact h
        simp [h0, hf, hl, p, ins, hm, this]; omega
    · have := d1 h0
      cases hl : c.Leaked with
      | true => simp [h0, fr, hl, p, ins, hm, this, pr]; omega
      | false =>
        have hf : c.From = 0 := by rcases le with h | h; rw [hl] at h; cases h; exact h
        simp [h0, hf, hl, p, ins, hm, this, pr]; omega

theorem may_cand {c : TCand} (hA : InK .u32 c.P.A) : F8_rib_May c = F9_crossroadsref25_May c := by
  rw [Bool.eq_iff_iff, may8, may9 hA]

theorem mayAll_l1 {t : TTable} (hu : ∀ i, InK .u32 (t.L.getD i default).P.A) : ∀ (l : List TCand) (i : Nat), (∀ x ∈ l, InK .u32 x.P.A) → F11_rib_MayAll_l1 t i l = F12_crossroadsref25_MayAll_l1 t i l
  | [], i, _ => rfl
  | x :: l, i, hl => by
    have hx := hl x List.mem_cons_self
    have ih := fun j => mayAll_l1 hu l j fun y hy => hl y (List.mem_cons_of_mem _ hy)
    rw [F11_rib_MayAll_l1, F12_crossroadsref25_MayAll_l1]
    simp only [may_cand hx, less_lex, refLess_lex (hu _) hx, ih]

theorem getD_u32 {l : List TCand} (h : ∀ x ∈ l, InK .u32 x.P.A) (i : Nat) : InK .u32 (l.getD i default).P.A := by
  by_cases hi : i < l.length
  · have : l.getD i default = l[i] := by simp [List.getD, hi]
    rw [this]
    exact h _ (List.getElem_mem hi)
  · have : l.getD i default = default := by simp [List.getD, hi]
    rw [this]
    exact inK32 (a := 0) (by decide)

theorem mayAll_same {t : TTable} (hl : ∀ x ∈ t.L, InK .u32 x.P.A) (hn : t.L.length ≤ 500) : F11_rib_MayAll t = F12_crossroadsref25_MayAll t := by
  unfold F11_rib_MayAll F12_crossroadsref25_MayAll
  have d : decide (500 < (t.L.length : Int)) = false := by simp; omega
  have d2 : decide ((t.L.length : Int) ≤ 500) = true := by simp; omega
  rw [d, d2, mayAll_l1 (getD_u32 hl) t.L 0 hl]
  rfl

/-! ### As the document's -/
theorem plain_l1 : ∀ (l out : List THop), out.length + l.length < 1099511627776 → F10_crossroadslaw25_plain_l1 out l = some (out ++ l)
  | [], out, _ => by rw [F10_crossroadslaw25_plain_l1, List.append_nil]
  | x :: l, out, h => by
    rw [F10_crossroadslaw25_plain_l1]
    simp only [List.length_cons] at h
    have d : decide (out.length < 1099511627776) = true := by simp; omega
    simp only [F30_crossroadslaw25_hop, d, cond_true]
    rw [plain_l1 l _ (by simp; omega)]
    simp
theorem plain_eq {c : TCand} (h : c.Hops.length < 1099511627776) : F10_crossroadslaw25_plain c = some c := by
  unfold F10_crossroadslaw25_plain
  rw [plain_l1 c.Hops [] (by simpa using h)]
  simp
theorem rows_l1 : ∀ (l out : List TCand), out.length + l.length < 1099511627776 → (∀ x ∈ l, x.Hops.length < 1099511627776) → F25_crossroadslaw25_rows_l1 out l = some (out ++ l)
  | [], out, _, _ => by rw [F25_crossroadslaw25_rows_l1, List.append_nil]
  | x :: l, out, h, hh => by
    rw [F25_crossroadslaw25_rows_l1]
    simp only [List.length_cons] at h
    have d : decide (out.length < 1099511627776) = true := by simp; omega
    simp only [plain_eq (hh x List.mem_cons_self), d, cond_true]
    rw [rows_l1 l _ (by simp; omega) fun y hy => hh y (List.mem_cons_of_mem _ hy)]
    simp
theorem rows_eq {l : List TCand} (h : l.length < 1099511627776) (hh : ∀ x ∈ l, x.Hops.length < 1099511627776) : F25_crossroadslaw25_rows l = some l := by
  unfold F25_crossroadslaw25_rows
  rw [rows_l1 l [] (by simpa using h) hh]
  simp
theorem table_eq {t : TTable} (h : t.L.length < 1099511627776) (hh : ∀ x ∈ t.L, x.Hops.length < 1099511627776) : F13_crossroadslaw25_table t = some t := by
  unfold F13_crossroadslaw25_table
  rw [rows_eq h hh]

theorem short_iff : ∀ (l : List TCand), F6_crossroadslaw25_short l = true ↔ ∀ x ∈ l, x.Hops.length ≤ 20
  | [] => by simp [F6_crossroadslaw25_short, F6_crossroadslaw25_short_l1]
  | x :: l => by
    have ih := short_iff l
    unfold F6_crossroadslaw25_short at ih ⊢
    rw [F6_crossroadslaw25_short_l1]
    by_cases h : 20 < x.Hops.length
    · have d : decide (20 < (x.Hops.length : Int)) = true := by simp; omega
      rw [d]
      simp
      omega
    · have d : decide (20 < (x.Hops.length : Int)) = false := by simp; omega
      rw [d]
      simp only [cond_false]
      rw [ih]
      simp
      omega

theorem alive_true : F7_crossroadslaw25_alive = some true := by kernel_rfl

theorem ribCands_true (l : List TCand) (a b : TCand) (ok0 : ∀ y ∈ l, TCand.ok y) (ok1 : TCand.ok a) (ok2 : TCand.ok b) : F3_crossroadslaw25_RibCands l a b = some true := by
  unfold F3_crossroadslaw25_RibCands
  by_cases hn : 80 < l.length
  · have d : decide (80 < (l.length : Int)) = true := by simp; omega
    rw [d]
    exact alive_true
  · have d : decide (80 < (l.length : Int)) = false := by simp; omega
    rw [d]
    simp only [cond_false]
    cases hs : F6_crossroadslaw25_short l with
    | false => exact alive_true
    | true =>
      have hsh := (short_iff l).1 hs
      simp only [cond_true]
      by_cases ha : 20 < a.Hops.length
      · have d1 : decide (20 < (a.Hops.length : Int)) = true := by simp; omega
        rw [d1]
        exact alive_true
      · have d1 : decide (20 < (a.Hops.length : Int)) = false := by simp; omega
        rw [d1]
        simp only [cond_false]
        by_cases hb : 20 < b.Hops.length
        · have d2 : decide (20 < (b.Hops.length : Int)) = true := by simp; omega
          rw [d2]
          exact alive_true
        · have d2 : decide (20 < (b.Hops.length : Int)) = false := by simp; omega
          rw [d2]
          have hu : ∀ x ∈ (⟨l⟩ : TTable).L, InK .u32 x.P.A := fun x hx => (ok0 x hx).1.1
          simp only [cond_false, alive_true, cond_true, plain_eq (show a.Hops.length < 1099511627776 by omega), plain_eq (show b.Hops.length < 1099511627776 by omega), may_cand ok1.1.1, beq_self_eq_true,
            table_eq (t := ⟨l⟩) (show l.length < 1099511627776 by omega) (fun x hx => by have := hsh x hx; omega), mayAll_same (t := ⟨l⟩) hu (show l.length ≤ 500 by omega), less_lex, refLess_lex ok1.1.1 ok2.1.1, better_lex, refBetter_lex]

end Go.Proofs.Ytmfggjebbhdejaa.Abs
