/- Prefixes: the live question; in which order they stand; what covers what, and what two have in common. Plain law: no program in sight. -/
import Derived.Test.YtkdhongicibhbaaDoorL2
import Derived.Test.YtkdhongicibhbaaDoorTy
set_option linter.unusedVariables false
set_option linter.unusedSimpArgs false
set_option maxRecDepth 100000
namespace Go.Proofs.YtkdhongicibhbaaDoor.Abs
open Go

theorem alive_true : F9_crossroadslaw03_alive = some true := by kernel_rfl

theorem less13 (p q : TPrefix) : F13_addr_Less p q = true ↔ Ls p q := by
  unfold F13_addr_Less Ls
  by_cases h : p.A = q.A
  · simp [h]
  · simp [h]

theorem less_same (p q : TPrefix) : F13_addr_Less p q = F21_crossroadsref03_Less p q := by
  rw [Bool.eq_iff_iff, less13, less_Ls]

theorem eqv (p q : TPrefix) : (decide (p.A = q.A) && (decide (p.N = q.N) && true)) = true ↔ p = q := by
  obtain ⟨a, n⟩ := p
  obtain ⟨b, m⟩ := q
  simp

theorem addrOrder_true (p q s : TPrefix) (hp : p.ok) (hq : q.ok) (hs : s.ok) : F4_crossroadslaw03_AddrOrder p q s = some true := by
  have k1 := less13 p q
  have k2 := less13 q p
  have k3 := less13 q s
  have k4 := less13 p s
  have k5 := eqv p q
  have k6 : F14_addr_Covers p q = true → p = q ∨ Ls p q := fun h => by
    have hc := (covers_C hp.1 hq.1).1 h
    by_cases e : p = q
    · exact .inl e
    · exact .inr (hc.ls e)
  have t1 : p ≠ q → Ls p q ∨ Ls q p := fun h => Ls.tri h
  have t2 : Ls p q → Ls q s → Ls p s := fun h k => h.trans k
  have t3 : Ls p q → ¬ Ls q p := fun h => h.asymm
  have t4 : Ls p q → p ≠ q := fun h => h.ne
  have t5 : Ls q p → p ≠ q := fun h => h.ne.symm
  unfold F4_crossroadslaw03_AddrOrder
  simp only [alive_true]
  generalize F13_addr_Less p q = b1 at *
  generalize F13_addr_Less q p = b2 at *
  generalize F13_addr_Less q s = b3 at *
  generalize F13_addr_Less p s = b4 at *
  generalize F14_addr_Covers p q = b5 at *
  generalize (decide (p.A = q.A) && (decide (p.N = q.N) && true)) = b6 at *
  cases b1 <;> cases b2 <;> cases b3 <;> cases b4 <;> cases b5 <;> cases b6 <;> simp_all

/-! ### What two have in common -/

theorem len32_zero : F50_bits_Len32 0 = 0 := by kernel_rfl

/-- The prefix of an address that is so long. -/
def X (a l : Nat) : TPrefix := ⟨((a / 2 ^ (32 - l) * 2 ^ (32 - l) : Nat) : Int), (l : Int)⟩

theorem X_PV {a l : Nat} (ha : a < 4294967296) (hl : l ≤ 32) : PV (X a l) (a / 2 ^ (32 - l) * 2 ^ (32 - l)) l :=
  ⟨rfl, rfl, Nat.lt_of_le_of_lt (Nat.div_mul_le_self _ _) ha, hl, Nat.mul_mod_left _ _⟩

theorem X_C {p : TPrefix} {a b n l : Nat} (ha : a < 4294967296) (hp : PV p b n) : l ≤ n → a / 2 ^ (32 - l) = b / 2 ^ (32 - l) → C (X a l) p := by
  intro hl he
  refine ⟨_, _, b, n, X_PV ha (Nat.le_trans hl hp.le), hp, hl, ?_⟩
  rw [Nat.mul_div_cancel _ (Nat.two_pow_pos _), he]

theorem C_X {p : TPrefix} {a b n l : Nat} (ha : a < 4294967296) (hl32 : l ≤ 32) (hp : PV p b n) (h : C (X a l) p) : l ≤ n ∧ a / 2 ^ (32 - l) = b / 2 ^ (32 - l) := by
  obtain ⟨a', n', b', m', h1, h2, h3, h4⟩ := h
  obtain ⟨rfl, rfl⟩ := h1.same (X_PV ha hl32)
  obtain ⟨rfl, rfl⟩ := h2.same hp
  refine ⟨h3, ?_⟩
  rw [h4, Nat.mul_div_cancel _ (Nat.two_pow_pos _)]

theorem common_at {p q : TPrefix} {a n b m : Nat} (hp : PV p a n) (hq : PV q b m) : ∃ k, k ≤ 32 ∧ F19_addr_Common p q = X a k ∧ C (X a k) p ∧ C (X a k) q ∧ ∀ l, l ≤ 32 → C (X a l) p → C (X a l) q → l ≤ k := by
  have mp := (may_V (V.inK ⟨a, n, hp⟩)).2 ⟨a, n, hp⟩
  have mq := (may_V (V.inK ⟨b, m, hq⟩)).2 ⟨b, m, hq⟩
  have hpl := hp.le
  have hql := hq.le
  unfold F19_addr_Common
  simp only [mp, mq, cond_true]
  rw [hp.hA, hq.hA, hp.hN, hq.hN]
  obtain ⟨e1, e2⟩ := xor_u32 hp.lt hq.lt
  rw [e1]
  unfold F38_bits_LeadingZeros32
  have hlen : ∃ k : Nat, F50_bits_Len32 ((a ^^^ b : Nat) : Int) = k ∧ k ≤ 32 ∧ (a ^^^ b) / 2 ^ k = 0 ∧ (0 < k → (a ^^^ b) / 2 ^ (k - 1) = 1) := by
    obtain ⟨k, e, k1, k2, k3⟩ := len32_spec e2
    by_cases hz : a ^^^ b = 0
    · rw [hz] at e ⊢
      refine ⟨0, len32_zero, by omega, by simp, fun h => absurd h (by omega)⟩
    · exact ⟨k, e, k1, k2, fun _ => (k3 hz).2⟩
  obtain ⟨k, e, k1, k2, k3⟩ := hlen
  rw [e]
  simp only
  rw [wi64 (x := 32 - (k : Int)) (by omega) (by omega)]
  rw [show (32 - (k : Int)) = ((32 - k : Nat) : Int) by omega, min3]
  have hk : a / 2 ^ k = b / 2 ^ k := by
    rw [xor_div] at k2
    exact xor_zero k2
  have hb : 0 < k → a / 2 ^ (k - 1) ≠ b / 2 ^ (k - 1) := by
    intro h0 h
    have := k3 h0
    rw [xor_div, h, Nat.xor_self] at this
    cases this
  generalize hcm : min (min n m) (32 - k) = c
  have c1 : c ≤ n := by omega
  have c2 : c ≤ m := by omega
  have c3 : c ≤ 32 - k := by omega
  refine ⟨c, by omega, ?_, X_C hp.lt hp c1 rfl, X_C hp.lt hq c2 (div_more hk (by omega)), fun l hl h1 h2 => ?_⟩
  · unfold F16_addr_Mask
    rw [mask_eq (by omega), and_mask hp.lt (by omega)]
    rfl
  · obtain ⟨l1, _⟩ := C_X hp.lt hl hp h1
    obtain ⟨l2, l3⟩ := C_X hp.lt hl hq h2
    have : l ≤ 32 - k := by
      apply Nat.le_of_not_lt
      intro hlt
      exact hb (by omega) (div_more l3 (by omega))
    omega

theorem refMask_all : ∀ k : Fin 33, F30_crossroadsref03_Mask ((k.val : Nat) : Int) = some ((maskN k.val : Nat) : Int) := by decide +kernel
theorem refMask_eq {n : Nat} (h : n ≤ 32) : F30_crossroadsref03_Mask (n : Int) = some ((maskN n : Nat) : Int) := refMask_all ⟨n, by omega⟩

theorem refOf_eq {a l : Nat} (ha : a < 4294967296) (hl : l ≤ 32) : F24_crossroadsref03_Of (a : Int) (l : Int) = some (X a l, 0) := by
  unfold F24_crossroadsref03_Of
  have h1 : decide ((l : Int) < 0) = false := by simp
  have h2 : decide ((32 : Int) < (l : Int)) = false := by simp; omega
  simp only [h1, h2, cond_false, refMask_eq hl, and_mask ha hl]
  rfl

theorem addrOf_eq {a l : Nat} (ha : a < 4294967296) (hl : l ≤ 32) : F23_addr_Of (a : Int) (l : Int) = (X a l, 0) := by
  unfold F23_addr_Of F39_addr_isLong F16_addr_Mask
  have h1 : decide ((0 : Int) ≤ (l : Int)) = true := by simp
  have h2 : decide ((l : Int) ≤ 32) = true := by simp; omega
  simp only [h1, h2, Bool.and_self, cond_true, mask_eq hl, and_mask ha hl]
  rfl

theorem X_inK {a l : Nat} (ha : a < 4294967296) : InK .u32 (X a l).A := inK32 (Nat.lt_of_le_of_lt (Nat.div_mul_le_self _ _) ha)

theorem refCovers_C {p q : TPrefix} (hp : InK .u32 p.A) (hq : InK .u32 q.A) : F18_crossroadsref03_Covers p q = true ↔ C p q := by
  rw [← covers_same hp hq, covers_C hp hq]

theorem common_l1 {p q : TPrefix} {a n b m k : Nat} (hp : PV p a n) (hq : PV q b m) (hk : k ≤ 32) (h1 : C (X a k) p) (h2 : C (X a k) q) (h3 : ∀ l, l ≤ 32 → C (X a l) p → C (X a l) q → l ≤ k) :
    ∀ (fuel i : Nat) (best : TPrefix), i ≤ 33 → 34 ≤ fuel + i → (i ≠ 0 → best = X a (min (i - 1) k)) → F20_crossroadsref03_Common_l1 p q fuel (i : Int) best = some (33, X a k)
  | 0, i, best, hi, hf, _ => by omega
  | fuel + 1, i, best, hi, hf, hb => by
    unfold F20_crossroadsref03_Common_l1
    by_cases h33 : i = 33
    · subst h33
      have : decide (((33 : Nat) : Int) ≤ 32) = false := by decide
      rw [this]
      simp only [cond_false]
      rw [hb (by decide), show min (33 - 1) k = k by omega]
      rfl
    · have hd : decide ((i : Int) ≤ 32) = true := by simp; omega
      rw [hd]
      simp only [cond_true]
      rw [hp.hA, refOf_eq hp.lt (by omega)]
      simp only
      have hw : IntKind.i64.wrap ((i : Int) + 1) = ((i + 1 : Nat) : Int) := by rw [wi64 (by omega) (by omega)]; omega
      rw [hw]
      have hpK : InK .u32 p.A := V.inK ⟨a, n, hp⟩
      have hqK : InK .u32 q.A := V.inK ⟨b, m, hq⟩
      have cp := refCovers_C (X_inK (l := i) hp.lt) hpK
      have cq := refCovers_C (X_inK (l := i) hp.lt) hqK
      by_cases hik : i ≤ k
      · obtain ⟨l1, l2⟩ := C_X hp.lt hk hp h1
        obtain ⟨m1, m2⟩ := C_X hp.lt hk hq h2
        rw [cp.2 (X_C hp.lt hp (by omega) rfl), cq.2 (X_C hp.lt hq (by omega) (div_more m2 (by omega)))]
        simp only [cond_true]
        exact common_l1 hp hq hk h1 h2 h3 fuel (i + 1) _ (by omega) (by omega) fun _ => by rw [show min (i + 1 - 1) k = i by omega]
      · have hne : ¬ (F18_crossroadsref03_Covers (X a i) p = true ∧ F18_crossroadsref03_Covers (X a i) q = true) := by
          rintro ⟨g1, g2⟩
          exact hik (h3 i (by omega) (cp.1 g1) (cq.1 g2))
        have hb' := hb (by omega)
        have hn' : (i + 1 ≠ 0 → best = X a (min (i + 1 - 1) k)) := fun _ => by rw [hb']; congr 1; omega
        have ih := common_l1 hp hq hk h1 h2 h3 fuel (i + 1) best (by omega) (by omega) hn'
        cases g1 : F18_crossroadsref03_Covers (X a i) p <;> cases g2 : F18_crossroadsref03_Covers (X a i) q <;> simp only [cond_true, cond_false] <;> first
          | exact ih
          | exact absurd ⟨g1, g2⟩ hne

theorem common_same {p q : TPrefix} (hp : InK .u32 p.A) (hq : InK .u32 q.A) : F20_crossroadsref03_Common p q = some (F19_addr_Common p q) := by
  unfold F20_crossroadsref03_Common
  rw [← may_same hp, ← may_same hq]
  cases mp : F17_addr_May p with
  | false => simp [F19_addr_Common, mp]
  | true =>
    cases mq : F17_addr_May q with
    | false => simp [F19_addr_Common, mp, mq]
    | true =>
      obtain ⟨a, n, hp'⟩ := (may_V hp).1 mp
      obtain ⟨b, m, hq'⟩ := (may_V hq).1 mq
      obtain ⟨k, hk, e, h1, h2, h3⟩ := common_at hp' hq'
      simp only [cond_true]
      have := common_l1 hp' hq' hk h1 h2 h3 100 0 ⟨0, 0⟩ (by omega) (by omega) (fun h => absurd rfl h)
      have this : F20_crossroadsref03_Common_l1 p q 100 0 ⟨0, 0⟩ = some (33, X a k) := this
      rw [this, e]

theorem addrPairs_true (p q : TPrefix) (hp : p.ok) (hq : q.ok) : F6_crossroadslaw03_AddrPairs p q = some true := by
  unfold F6_crossroadslaw03_AddrPairs
  rw [alive_true, common_same hp.1 hq.1, covers_same hp.1 hq.1, less_same]
  simp

/-! ### Blocks -/

theorem X_ext {p : TPrefix} {a n k : Nat} (hp : PV p a n) (hk : k ≤ 32) (h : C (X a k) p) (hn : n ≤ k) : X a k = p := by
  obtain ⟨l1, _⟩ := C_X hp.lt hk hp h
  have e : k = n := by omega
  subst e
  have := align hp.al
  obtain ⟨A, N⟩ := p
  have h1 := hp.hA
  have h2 := hp.hN
  simp only at h1 h2
  subst h1 h2
  simp only [X, this]

theorem has_iff {p : TPrefix} {a n b : Nat} (hp : PV p a n) (hb : b < 4294967296) : F22_addr_Has p (b : Int) = true ↔ b / 2 ^ (32 - n) = a / 2 ^ (32 - n) := by
  rw [has_C hb (V.inK ⟨a, n, hp⟩)]
  constructor
  · rintro ⟨a', n', h1, h2⟩
    obtain ⟨rfl, rfl⟩ := h1.same hp
    exact h2
  · exact fun h => ⟨a, n, hp, h⟩

theorem addrBlocks_true (p q : TPrefix) (x : Int) (hp : p.ok) (hq : q.ok) (hx : InK .u32 x) : F7_crossroadslaw03_AddrBlocks p q x = some true := by
  have hcp := covers_C hp.1 hq.1
  have hcq := covers_C hq.1 hp.1
  have mp := may_V hp.1
  have mq := may_V hq.1
  by_cases vp : V p
  · by_cases vq : V q
    · obtain ⟨a, n, hp'⟩ := vp
      obtain ⟨b, m, hq'⟩ := vq
      obtain ⟨y, rfl, hy⟩ := u32_nat hx
      have e1 := mp.2 ⟨a, n, hp'⟩
      have e2 := mq.2 ⟨b, m, hq'⟩
      have hh1 := has_iff hp' hy
      have hh2 := has_iff hq' hy
      obtain ⟨k, hk, e, h1, h2, h3⟩ := common_at hp' hq'
      have hXK := X_inK (l := k) hp'.lt
      have c1 : F14_addr_Covers (X a k) p = true := (covers_C hXK hp.1).2 h1
      have c2 : F14_addr_Covers (X a k) q = true := (covers_C hXK hq.1).2 h2
      -- no longer one covers both
      have hlong : ∀ u v, F23_addr_Of p.A (IntKind.i64.wrap ((X a k).N + 1)) = (u, v) → ¬ (v = 0 ∧ F14_addr_Covers u p = true ∧ F14_addr_Covers u q = true) := by
        rintro u v hF ⟨hv, g1, g2⟩
        rw [hp'.hA] at hF
        have hw : IntKind.i64.wrap ((X a k).N + 1) = ((k + 1 : Nat) : Int) := by simp only [X]; rw [wi64 (by omega) (by omega)]; omega
        rw [hw] at hF
        by_cases hk1 : k + 1 ≤ 32
        · rw [addrOf_eq hp'.lt hk1] at hF
          injection hF with hu _
          subst hu
          have hXK1 := X_inK (l := k + 1) hp'.lt
          have := h3 (k + 1) hk1 ((covers_C hXK1 hp.1).1 g1) ((covers_C hXK1 hq.1).1 g2)
          omega
        · unfold F23_addr_Of F39_addr_isLong at hF
          have d : decide (((k + 1 : Nat) : Int) ≤ 32) = false := by simp; omega
          simp only [d, Bool.and_false, cond_false] at hF
          injection hF with _ hv'
          omega
      have hcom : F14_addr_Covers p q = (decide ((X a k).A = p.A) && (decide ((X a k).N = p.N) && true)) := by
        rw [Bool.eq_iff_iff, eqv, hcp]
        constructor
        · intro hC
          obtain ⟨_, _, _, _, g1, g2, g3, g4⟩ := hC
          obtain ⟨rfl, rfl⟩ := g1.same hp'
          obtain ⟨rfl, rfl⟩ := g2.same hq'
          exact X_ext hp' hk h1 (h3 _ hp'.le (X_C hp'.lt hp' (Nat.le_refl _) rfl) (X_C hp'.lt hq' g3 g4.symm))
        · intro he
          rw [← he]
          exact h2
      have i1 : F22_addr_Has p (y : Int) = true → F22_addr_Has q (y : Int) = true → F14_addr_Covers p q = true ∨ F14_addr_Covers q p = true := by
        intro g1 g2
        have g1 := hh1.1 g1
        have g2 := hh2.1 g2
        rcases Nat.le_total n m with hm | hm
        · exact .inl (hcp.2 ⟨a, n, b, m, hp', hq', hm, by rw [← g1]; exact (div_more g2 (by omega)).symm⟩)
        · exact .inr (hcq.2 ⟨b, m, a, n, hq', hp', hm, by rw [← g2]; exact (div_more g1 (by omega)).symm⟩)
      have i2 : F14_addr_Covers p q = true → F22_addr_Has q (y : Int) = true → F22_addr_Has p (y : Int) = true := by
        intro g1 g2
        obtain ⟨a', n', b', m', k1, k2, k3, k4⟩ := hcp.1 g1
        obtain ⟨ea, en⟩ := k1.same hp'
        obtain ⟨eb, em⟩ := k2.same hq'
        rw [ea, en, eb] at k4
        have g3 := hh2.1 g2
        exact hh1.2 (by rw [div_more g3 (l := 32 - n) (by omega), k4])
      unfold F7_crossroadslaw03_AddrBlocks
      simp only [alive_true, e1, e2, e, cond_true, c1, c2]
      rw [← hcom]
      generalize hF : F23_addr_Of p.A (IntKind.i64.wrap ((X a k).N + 1)) = w
      obtain ⟨u, v⟩ := w
      have hl := hlong u v hF
      simp only
      generalize F22_addr_Has p (y : Int) = b1 at *
      generalize F22_addr_Has q (y : Int) = b2 at *
      generalize F14_addr_Covers p q = b3 at *
      generalize F14_addr_Covers q p = b4 at *
      generalize F14_addr_Covers u p = b5 at *
      generalize F14_addr_Covers u q = b6 at *
      have hl' : ¬ (decide (v = 0) = true ∧ b5 = true ∧ b6 = true) := by simpa using hl
      generalize decide (v = 0) = b7 at *
      clear hF hl hcom h3 hlong
      cases b1 <;> cases b2 <;> cases b3 <;> cases b4 <;> cases b5 <;> cases b6 <;> cases b7 <;> simp_all
    · have e2 : F17_addr_May q = false := by
        cases h : F17_addr_May q
        · rfl
        · exact absurd (mq.1 h) vq
      have e3 : F14_addr_Covers p q = false := by
        cases h : F14_addr_Covers p q
        · rfl
        · exact absurd (hcp.1 h).right vq
      unfold F7_crossroadslaw03_AddrBlocks
      simp only [alive_true, mp.2 vp, e2, e3, cond_true, cond_false, Bool.not_false]
  · have e1 : F17_addr_May p = false := by
      cases h : F17_addr_May p
      · rfl
      · exact absurd (mp.1 h) vp
    have e3 : F14_addr_Covers p q = false := by
      cases h : F14_addr_Covers p q
      · rfl
      · exact absurd (hcp.1 h).left vp
    unfold F7_crossroadslaw03_AddrBlocks
    simp only [alive_true, e1, e3, cond_true, cond_false, Bool.not_false]

end Go.Proofs.YtkdhongicibhbaaDoor.Abs
