/- The exchange between two sessions of unlike numbers: its invariant; ExchAll and ExchDone. -/
import Derived.Test.YtbmdpedhobkeeaaL6
set_option linter.unusedVariables false
set_option linter.unusedSimpArgs false
set_option maxRecDepth 10000
namespace Go.Proofs.Ytbmdpedhobkeeaa.Abs
open Go

theorem wrapU32 (n : Int) : IntKind.u32.wrap n = n % 4294967296 := by
  have h3 : (2 : Int) ^ IntKind.u32.bits = 4294967296 := by decide
  have h5 : IntKind.u32.signed = false := rfl
  simp only [IntKind.wrap, h3, h5, Bool.false_and, Bool.false_eq_true, if_false]

/-- The j-th number. -/
def sqn (L : Int) (j : Nat) : Int := (L + j) % 4294967296
theorem sq_up (L : Int) (j : Nat) : IntKind.u32.wrap (sqn L j + 1) = sqn L (j + 1) := by rw [wrapU32]; unfold sqn; omega
theorem sq_dn (L : Int) (j : Nat) : IntKind.u32.wrap (sqn L (j + 1) - 1) = sqn L j := by rw [wrapU32]; unfold sqn; omega
theorem sq_inj {L : Int} {i j : Nat} (hi : i < 100) (hj : j < 100) (h : sqn L i = sqn L j) : i = j := by unfold sqn at h; omega

/-- The leader's number, the follower's, what they begin with, and what they have. -/
structure Pr where
  oa : Int
  ob : Int
  L : Int
  Lb : Int
  HA : List THeader
  HB : List THeader
structure PrOk (p : Pr) : Prop where
  lt : p.ob < p.oa
  l0 : 0 ≤ p.L
  l1 : p.L < 4294967296
  a : p.HA.length ≤ 120
  b : p.HB.length ≤ 120

def mA (p : Pr) (j : Nat) : TDesc := ⟨1500, 2, false, decide (10 * (j + 1) < p.HA.length), true, sqn p.L (j + 1), (p.HA.drop (10 * j)).take 10⟩
def mB (p : Pr) (j : Nat) : TDesc := ⟨1500, 2, false, decide (10 * (j + 1) < p.HB.length), false, sqn p.L j, (p.HB.drop (10 * j)).take 10⟩
def iD (q : Int) : TDesc := ⟨1500, 2, true, true, true, q, []⟩
/-- The k-th page is the last one of both. -/
abbrev fin (p : Pr) (k : Nat) : Prop := 1 ≤ k ∧ p.HA.length ≤ 10 * k ∧ p.HB.length ≤ 10 * (k + 1)
def LeadS (p : Pr) : Nat → Bool → TSession
  | 0, _ => opS p.oa p.ob p.L p.HA
  | k + 1, dn => ⟨p.oa, p.ob, if dn = true then 2 else 1, true, sqn p.L (k + 1), p.HA.drop (10 * (k + 1)), p.HB.take (10 * (if dn = true then k + 2 else k + 1)), mA p k⟩
def FolS (p : Pr) : Nat → TSession
  | 0 => opS p.ob p.oa p.Lb p.HB
  | m + 1 => ⟨p.ob, p.oa, if fin p m then 2 else 1, false, sqn p.L m, p.HB.drop (10 * (m + 1)), p.HA.take (10 * m), mB p m⟩

def Noop (s : TSession) (r : TSession × TDesc × Bool × Int) : Prop := r.1 = s ∧ r.2.2.1 = false

variable {p : Pr}

theorem lead_i (hp : PrOk p) (k : Nat) (dn : Bool) (q : Int) : Noop (LeadS p k dn) (hearT (LeadS p k dn) (iD q)) := by
  cases k with
  | zero =>
    unfold hearT
    rw [if_pos (by rfl), if_pos (by rfl), if_neg]
    · exact ⟨rfl, rfl⟩
    · rintro ⟨_, _, _, h⟩
      have h' : p.oa < p.ob := h
      have := hp.lt
      omega
  | succ k =>
    unfold hearT
    rw [if_neg (by cases dn <;> simp [LeadS]), if_pos (by rfl)]
    exact ⟨rfl, rfl⟩
theorem hear_lead {k : Nat} {dn : Bool} {j : Nat} : hearT (LeadS p (k + 1) dn) (mB p j) = leadT (LeadS p (k + 1) dn) (mB p j) := by
  unfold hearT
  rw [if_neg (by cases dn <;> simp [LeadS]), if_neg (by simp [mB]), if_neg (by simp [mB, LeadS]), if_pos (by rfl)]
theorem lead_old {k : Nat} (dn : Bool) {j : Nat} (hj : j < k) (hk : k < 50) : Noop (LeadS p k dn) (hearT (LeadS p k dn) (mB p j)) := by
  cases k with
  | zero => omega
  | succ k =>
    rw [hear_lead]
    unfold leadT
    split
    · exact ⟨rfl, rfl⟩
    · split
      · rename_i h
        have : j = k + 1 := sq_inj (L := p.L) (by omega) (by omega) h
        omega
      · exact ⟨rfl, rfl⟩
theorem lead_dn {k : Nat} (hk : k < 50) (h1 : 1 ≤ k) : Noop (LeadS p k true) (hearT (LeadS p k true) (mB p k)) := by
  cases k with
  | zero => omega
  | succ k =>
    rw [hear_lead]
    unfold leadT
    split
    · exact ⟨rfl, rfl⟩
    · split
      · rw [if_pos (by simp [LeadS])]
        exact ⟨rfl, rfl⟩
      · exact ⟨rfl, rfl⟩
theorem take_step {α : Type} (l : List α) (k : Nat) : l.take (10 * k) ++ (l.drop (10 * k)).take 10 = l.take (10 * (k + 1)) := by
  rw [show 10 * (k + 1) = 10 * k + 10 by omega, List.take_add]
theorem drop_step {α : Type} (l : List α) (k : Nat) : (l.drop (10 * k)).drop 10 = l.drop (10 * (k + 1)) := by
  rw [List.drop_drop]
  congr 1
theorem more_step {α : Type} (l : List α) (k : Nat) : decide (10 < (l.drop (10 * k)).length) = decide (10 * (k + 1) < l.length) := by
  rw [List.length_drop]
  by_cases h : 10 * (k + 1) < l.length
  · rw [decide_eq_true h, decide_eq_true (by omega)]
  · rw [decide_eq_false h, decide_eq_false (by omega)]

theorem lead_go (hp : PrOk p) {k : Nat} (hk : k < 50) : hearT (LeadS p k false) (mB p k) = if fin p k then (LeadS p k true, dNo, false, 0) else (LeadS p (k + 1) false, mA p k, true, 0) := by
  cases k with
  | zero =>
    rw [if_neg (by simp [fin])]
    have hL : sqn p.L 0 = p.L := by unfold sqn; have := hp.l0; have := hp.l1; omega
    unfold hearT
    rw [if_pos (by rfl), if_neg (by simp [mB]), if_pos ⟨rfl, hL, hp.lt⟩]
    unfold leadT
    rw [if_neg (by
      show ¬ sqn p.L 0 = IntKind.u32.wrap (p.L - 1)
      rw [wrapU32]; unfold sqn; omega), if_pos (by exact hL), if_neg (by show ¬ (1 : Int) = 2; decide), if_neg (by simp [LeadS, opS])]
    have e1 : IntKind.u32.wrap (p.L + 1) = sqn p.L 1 := by rw [← hL, sq_up, hL]
    have hs : ∀ (q : Int) (hq : q = sqn p.L 1), pgD (gotS ⟨p.oa, p.ob, 1, true, p.L, p.HA, [], iD p.L⟩ (mB p 0) q) = mA p 0 := by
      rintro q rfl
      unfold pgD mA gotS
      simp
    have hs2 := hs _ e1
    refine Prod.ext ?_ (Prod.ext hs2 rfl)
    unfold pgS
    show TSession.mk p.oa p.ob 1 true (IntKind.u32.wrap (p.L + 1)) (p.HA.drop 10) ([] ++ (p.HB.drop (10 * 0)).take 10) (pgD (gotS ⟨p.oa, p.ob, 1, true, p.L, p.HA, [], iD p.L⟩ (mB p 0) (IntKind.u32.wrap (p.L + 1)))) = _
    rw [hs2, e1]
    simp [LeadS]
  | succ k =>
    rw [hear_lead]
    unfold leadT
    rw [if_neg (by
      show ¬ sqn p.L (k + 1) = IntKind.u32.wrap (sqn p.L (k + 1) - 1)
      rw [sq_dn]
      intro h
      have := sq_inj (L := p.L) (by omega) (by omega) h
      omega), if_pos (by rfl), if_neg (by simp [LeadS])]
    have hm : ((LeadS p (k + 1) false).Last.More = false ∧ (mB p (k + 1)).More = false) ↔ fin p (k + 1) := by
      show (decide (10 * (k + 1) < p.HA.length) = false ∧ decide (10 * (k + 1 + 1) < p.HB.length) = false) ↔ _
      simp only [decide_eq_false_iff_not, fin]
      omega
    by_cases h : fin p (k + 1)
    · rw [if_pos (hm.2 h), if_pos h]
      refine Prod.ext ?_ rfl
      show TSession.mk p.oa p.ob 2 true (sqn p.L (k + 1)) (p.HA.drop (10 * (k + 1))) (p.HB.take (10 * (k + 1)) ++ (p.HB.drop (10 * (k + 1))).take 10) (mA p k) = _
      rw [take_step]
      simp [LeadS]
    · rw [if_neg (fun hh => h (hm.1 hh)), if_neg h]
      have e1 : IntKind.u32.wrap ((LeadS p (k + 1) false).Seq + 1) = sqn p.L (k + 2) := sq_up p.L (k + 1)
      have hs : pgD (gotS (LeadS p (k + 1) false) (mB p (k + 1)) (IntKind.u32.wrap ((LeadS p (k + 1) false).Seq + 1))) = mA p (k + 1) := by
        rw [e1]
        show TDesc.mk 1500 2 false (decide (10 < (p.HA.drop (10 * (k + 1))).length)) true (sqn p.L (k + 2)) ((p.HA.drop (10 * (k + 1))).take 10) = _
        rw [more_step]
        rfl
      refine Prod.ext ?_ (Prod.ext hs rfl)
      unfold pgS
      rw [hs]
      show TSession.mk p.oa p.ob 1 true (IntKind.u32.wrap ((LeadS p (k + 1) false).Seq + 1)) ((p.HA.drop (10 * (k + 1))).drop 10) (p.HB.take (10 * (k + 1)) ++ (p.HB.drop (10 * (k + 1))).take 10) (mA p (k + 1)) = _
      rw [e1, take_step, drop_step]
      rfl

theorem fol_i0 (hp : PrOk p) : hearT (FolS p 0) (iD p.L) = (FolS p 1, mB p 0, true, 0) := by
  have hL : sqn p.L 0 = p.L := by unfold sqn; have := hp.l0; have := hp.l1; omega
  unfold hearT
  rw [if_pos (by rfl), if_pos (by rfl), if_pos ⟨rfl, rfl, rfl, hp.lt⟩]
  have hs : pgD ⟨p.ob, p.oa, 1, false, p.L, p.HB, [], iD p.Lb⟩ = mB p 0 := by
    unfold pgD mB
    rw [hL]
    simp
  refine Prod.ext ?_ (Prod.ext hs rfl)
  show TSession.mk p.ob p.oa 1 false p.L (p.HB.drop 10) [] (pgD ⟨p.ob, p.oa, 1, false, p.L, p.HB, [], iD p.Lb⟩) = _
  rw [hs]
  simp [FolS, fin, hL]
theorem fol_i (m : Nat) (q : Int) : Noop (FolS p (m + 1)) (hearT (FolS p (m + 1)) (iD q)) := by
  unfold hearT
  rw [if_neg (by simp only [FolS]; split <;> decide), if_pos (by rfl)]
  exact ⟨rfl, rfl⟩
theorem hear_fol {m j : Nat} : hearT (FolS p (m + 1)) (mA p j) = followT (FolS p (m + 1)) (mA p j) := by
  unfold hearT
  rw [if_neg (by simp only [FolS]; split <;> decide), if_neg (by simp [mA]), if_neg (by simp [mA, FolS]), if_neg (by simp [FolS])]
theorem fol_again {m j : Nat} (h : j + 1 = m) : hearT (FolS p (m + 1)) (mA p j) = (FolS p (m + 1), mB p m, true, 0) := by
  subst h
  rw [hear_fol]
  unfold followT
  rw [if_pos (by rfl)]
  rfl
theorem fol_old {m j : Nat} (h : j + 1 < m) (hm : m < 50) : Noop (FolS p (m + 1)) (hearT (FolS p (m + 1)) (mA p j)) := by
  rw [hear_fol]
  unfold followT
  split
  · rename_i h1
    have := sq_inj (L := p.L) (i := j + 1) (j := m) (by omega) (by omega) h1
    omega
  · split
    · rename_i h1
      have h1' : sqn p.L (j + 1) = IntKind.u32.wrap (sqn p.L m + 1) := h1
      rw [sq_up] at h1'
      have := sq_inj (by omega) (by omega) h1'
      omega
    · exact ⟨rfl, rfl⟩
theorem fol_go {m : Nat} (hm : m < 50) : (fin p m → Noop (FolS p (m + 1)) (hearT (FolS p (m + 1)) (mA p m))) ∧ (¬ fin p m → hearT (FolS p (m + 1)) (mA p m) = (FolS p (m + 2), mB p (m + 1), true, 0)) := by
  rw [hear_fol]
  unfold followT
  rw [if_neg (by
    intro h
    have := sq_inj (L := p.L) (i := m + 1) (j := m) (by omega) (by omega) h
    omega), if_pos (by
    show sqn p.L (m + 1) = IntKind.u32.wrap (sqn p.L m + 1)
    rw [sq_up])]
  refine ⟨fun h => ?_, fun h => ?_⟩
  · rw [if_pos (by simp only [FolS]; rw [if_pos h])]
    exact ⟨rfl, rfl⟩
  · rw [if_neg (by simp only [FolS]; rw [if_neg h]; decide)]
    have hs : pgD (gotS (FolS p (m + 1)) (mA p m) (mA p m).Seq) = mB p (m + 1) := by
      show TDesc.mk 1500 2 false (decide (10 < (p.HB.drop (10 * (m + 1))).length)) false (sqn p.L (m + 1)) ((p.HB.drop (10 * (m + 1))).take 10) = _
      rw [more_step]
      rfl
    have hS : ∀ ph, (⟨p.ob, p.oa, ph, false, sqn p.L (m + 1), (p.HB.drop (10 * (m + 1))).drop 10, p.HA.take (10 * m) ++ (p.HA.drop (10 * m)).take 10, mB p (m + 1)⟩ : TSession) = ⟨p.ob, p.oa, ph, false, sqn p.L (m + 1), p.HB.drop (10 * (m + 2)), p.HA.take (10 * (m + 1)), mB p (m + 1)⟩ := by
      intro ph
      rw [drop_step, take_step]
    have hm : ((mA p m).More = false ∧ (pgD (gotS (FolS p (m + 1)) (mA p m) (mA p m).Seq)).More = false) ↔ fin p (m + 1) := by
      rw [hs]
      show (decide (10 * (m + 1) < p.HA.length) = false ∧ decide (10 * (m + 1 + 1) < p.HB.length) = false) ↔ _
      simp only [decide_eq_false_iff_not, fin]
      omega
    have hpg : pgS (gotS (FolS p (m + 1)) (mA p m) (mA p m).Seq) = ⟨p.ob, p.oa, 1, false, sqn p.L (m + 1), p.HB.drop (10 * (m + 2)), p.HA.take (10 * (m + 1)), mB p (m + 1)⟩ := by
      unfold pgS
      rw [hs, ← hS]
      show TSession.mk p.ob p.oa (if fin p m then 2 else 1) false _ _ _ _ = _
      rw [if_neg h]
      rfl
    by_cases hf : fin p (m + 1)
    · rw [if_pos (hm.2 hf), hs, hpg]
      refine Prod.ext ?_ rfl
      show TSession.mk p.ob p.oa 2 false _ _ _ _ = _
      simp only [FolS]
      rw [if_pos hf]
    · rw [if_neg (fun hh => hf (hm.1 hh)), hs, hpg]
      refine Prod.ext ?_ rfl
      simp only [FolS]
      rw [if_neg hf]

/-! ### The invariant -/
def XInv (p : Pr) (A B : TEnd) : Prop := ∃ (k n : Nat) (dn : Bool), A.s = LeadS p k dn ∧ B.s = FolS p n ∧ k ≤ n ∧ n ≤ k + 1 ∧ (dn = true → n = k + 1 ∧ fin p k) ∧ k ≤ 13 ∧
  (∀ d ∈ A.waits, d = iD p.Lb ∨ ∃ j, j < n ∧ d = mB p j) ∧ (∀ d ∈ B.waits, d = iD p.L ∨ ∃ j, j < k ∧ d = mA p j)

theorem rot_mem {d e : TDesc} {l : List TDesc} {again : Bool} (h : e ∈ (if again = true then l ++ [d] else l)) : e ∈ d :: l := by
  cases again
  · simp only [Bool.false_eq_true, if_false] at h
    exact List.mem_cons_of_mem _ h
  · simp only [if_true, List.mem_append, List.mem_singleton] at h
    rcases h with h | h
    · exact List.mem_cons_of_mem _ h
    · rw [h]; exact List.mem_cons_self

theorem inv_hearA (hp : PrOk p) {A B : TEnd} (h : XInv p A B) (again : Bool) : XInv p (hearE A B again).1 (hearE A B again).2 := by
  obtain ⟨k, n, dn, hA, hB, h1, h2, h3, h4, h5, h6⟩ := h
  unfold hearE
  cases hw : A.waits with
  | nil => exact ⟨k, n, dn, hA, hB, h1, h2, h3, h4, by rw [hw] at h5; rw [hw]; exact h5, h6⟩
  | cons d l =>
    rw [hw] at h5
    have noop : Noop (LeadS p k dn) (hearT A.s d) → XInv p ⟨(hearT A.s d).1, if again = true then l ++ [d] else l⟩ (if (hearT A.s d).2.2.1 = true then ⟨B.s, B.waits ++ [(hearT A.s d).2.1]⟩ else B) := fun ⟨q1, q2⟩ => by
      rw [q1, q2]
      exact ⟨k, n, dn, rfl, hB, h1, h2, h3, h4, fun e he => h5 e (rot_mem he), h6⟩
    rcases h5 d List.mem_cons_self with hd | ⟨j, hj, hd⟩
    · exact noop (by rw [hA, hd]; exact lead_i hp k dn _)
    · by_cases hjk : j < k
      · exact noop (by rw [hA, hd]; exact lead_old dn hjk (by omega))
      · obtain rfl : j = k := by omega
        cases dn with
        | true => exact noop (by rw [hA, hd]; exact lead_dn (by omega) (h3 rfl).2.1)
        | false =>
          have hg := lead_go hp (k := j) (by omega)
          by_cases hf : fin p j
          · rw [if_pos hf] at hg
            show XInv p ⟨(hearT A.s d).1, _⟩ (if (hearT A.s d).2.2.1 = true then _ else B)
            rw [hA, hd, hg]
            exact ⟨j, n, true, rfl, hB, h1, h2, fun _ => ⟨by omega, hf⟩, h4, fun e he => h5 e (by rw [hd]; exact rot_mem he), h6⟩
          · rw [if_neg hf] at hg
            show XInv p ⟨(hearT A.s d).1, _⟩ (if (hearT A.s d).2.2.1 = true then _ else B)
            rw [hA, hd, hg]
            refine ⟨j + 1, n, false, rfl, hB, by omega, by omega, (fun h => by cases h), ?_, fun e he => h5 e (by rw [hd]; exact rot_mem he), fun e he => ?_⟩
            · have := hp.a
              have := hp.b
              rcases Nat.eq_zero_or_pos j with h0 | h0
              · omega
              · have : ¬ (p.HA.length ≤ 10 * j ∧ p.HB.length ≤ 10 * (j + 1)) := fun hh => hf ⟨h0, hh⟩
                omega
            · rcases List.mem_append.1 he with he | he
              · rcases h6 e he with hq | ⟨i, hi, hq⟩
                · exact .inl hq
                · exact .inr ⟨i, by omega, hq⟩
              · exact .inr ⟨j, by omega, List.mem_singleton.1 he⟩

theorem inv_hearB (hp : PrOk p) {A B : TEnd} (h : XInv p A B) (again : Bool) : XInv p (hearE B A again).2 (hearE B A again).1 := by
  obtain ⟨k, n, dn, hA, hB, h1, h2, h3, h4, h5, h6⟩ := h
  unfold hearE
  cases hw : B.waits with
  | nil => exact ⟨k, n, dn, hA, hB, h1, h2, h3, h4, h5, by rw [hw] at h6; rw [hw]; exact h6⟩
  | cons d l =>
    rw [hw] at h6
    have noop : Noop (FolS p n) (hearT B.s d) → XInv p (if (hearT B.s d).2.2.1 = true then ⟨A.s, A.waits ++ [(hearT B.s d).2.1]⟩ else A) ⟨(hearT B.s d).1, if again = true then l ++ [d] else l⟩ := fun ⟨q1, q2⟩ => by
      rw [q1, q2]
      exact ⟨k, n, dn, hA, rfl, h1, h2, h3, h4, h5, fun e he => h6 e (rot_mem he)⟩
    rcases h6 d List.mem_cons_self with hd | ⟨j, hj, hd⟩
    · cases n with
      | zero =>
        obtain rfl : k = 0 := by omega
        show XInv p (if (hearT B.s d).2.2.1 = true then _ else A) ⟨(hearT B.s d).1, _⟩
        rw [hB, hd, fol_i0 hp]
        refine ⟨0, 1, dn, hA, rfl, by omega, by omega, fun h => ?_, by omega, fun e he => ?_, fun e he => h6 e (by rw [hd]; exact rot_mem he)⟩
        · have := (h3 h).1; omega
        · rcases List.mem_append.1 he with he | he
          · rcases h5 e he with hq | ⟨i, hi, hq⟩
            · exact .inl hq
            · omega
          · exact .inr ⟨0, by omega, List.mem_singleton.1 he⟩
      | succ m => exact noop (by rw [hB, hd]; exact fol_i m _)
    · cases n with
      | zero => omega
      | succ m =>
        rcases Nat.lt_trichotomy (j + 1) m with hlt | heq | hgt
        · exact noop (by rw [hB, hd]; exact fol_old hlt (by omega))
        · show XInv p (if (hearT B.s d).2.2.1 = true then _ else A) ⟨(hearT B.s d).1, _⟩
          rw [hB, hd, fol_again heq]
          refine ⟨k, m + 1, dn, hA, rfl, h1, h2, h3, h4, fun e he => ?_, fun e he => h6 e (by rw [hd]; exact rot_mem he)⟩
          rcases List.mem_append.1 he with he | he
          · exact h5 e he
          · exact .inr ⟨m, by omega, List.mem_singleton.1 he⟩
        · obtain rfl : j = m := by omega
          have hg := fol_go (p := p) (m := j) (by omega)
          by_cases hf : fin p j
          · exact noop (by rw [hB, hd]; exact hg.1 hf)
          · show XInv p (if (hearT B.s d).2.2.1 = true then _ else A) ⟨(hearT B.s d).1, _⟩
            rw [hB, hd, hg.2 hf]
            refine ⟨k, j + 2, dn, hA, rfl, by omega, by omega, fun h => ?_, h4, fun e he => ?_, fun e he => h6 e (by rw [hd]; exact rot_mem he)⟩
            · have := (h3 h).1; omega
            · rcases List.mem_append.1 he with he | he
              · rcases h5 e he with hq | ⟨i, hi, hq⟩
                · exact .inl hq
                · exact .inr ⟨i, by omega, hq⟩
              · exact .inr ⟨j + 1, by omega, List.mem_singleton.1 he⟩

theorem inv_dropA {A B : TEnd} (h : XInv p A B) : XInv p (dropE A) B := by
  obtain ⟨k, n, dn, hA, hB, h1, h2, h3, h4, h5, h6⟩ := h
  exact ⟨k, n, dn, hA, hB, h1, h2, h3, h4, fun e he => h5 e (List.mem_of_mem_tail he), h6⟩
theorem inv_dropB {A B : TEnd} (h : XInv p A B) : XInv p A (dropE B) := by
  obtain ⟨k, n, dn, hA, hB, h1, h2, h3, h4, h5, h6⟩ := h
  exact ⟨k, n, dn, hA, hB, h1, h2, h3, h4, h5, fun e he => h6 e (List.mem_of_mem_tail he)⟩
theorem inv_remA {A B : TEnd} (h : XInv p A B) : XInv p A (remE A B) := by
  obtain ⟨k, n, dn, hA, hB, h1, h2, h3, h4, h5, h6⟩ := h
  unfold remE
  split
  · rename_i hr
    refine ⟨k, n, dn, hA, hB, h1, h2, h3, h4, h5, fun e he => ?_⟩
    rcases List.mem_append.1 he with he | he
    · exact h6 e he
    · rw [List.mem_singleton.1 he]
      rw [hA] at hr ⊢
      cases k with
      | zero => exact .inl rfl
      | succ k =>
        cases dn
        · exact .inr ⟨k, by omega, rfl⟩
        · cases hr
  · exact ⟨k, n, dn, hA, hB, h1, h2, h3, h4, h5, h6⟩
theorem inv_remB {A B : TEnd} (h : XInv p A B) : XInv p (remE B A) B := by
  obtain ⟨k, n, dn, hA, hB, h1, h2, h3, h4, h5, h6⟩ := h
  unfold remE
  split
  · rename_i hr
    refine ⟨k, n, dn, hA, hB, h1, h2, h3, h4, fun e he => ?_, h6⟩
    rcases List.mem_append.1 he with he | he
    · exact h5 e he
    · rw [List.mem_singleton.1 he]
      rw [hB] at hr ⊢
      cases n with
      | zero => exact .inl rfl
      | succ m =>
        exfalso
        unfold F17_exch_Again at hr
        rw [decide_eq_false (by simp only [FolS]; split <;> decide)] at hr
        cases hr
  · exact ⟨k, n, dn, hA, hB, h1, h2, h3, h4, h5, h6⟩

theorem inv_stepA (hp : PrOk p) {A B : TEnd} (h : XInv p A B) (f : Int) : XInv p (stepE A B f).1 (stepE A B f).2 := by
  unfold stepE
  split
  · exact inv_hearA hp h false
  split
  · exact inv_hearB hp h false
  split
  · exact inv_dropA h
  split
  · exact inv_dropB h
  split
  · exact inv_remA h
  split
  · exact inv_remB h
  split
  · exact inv_hearA hp h true
  split
  · exact inv_hearB hp h true
  · exact h
theorem inv_stepB (hp : PrOk p) {A B : TEnd} (h : XInv p A B) (f : Int) : XInv p (stepE B A f).2 (stepE B A f).1 := by
  unfold stepE
  split
  · exact inv_hearB hp h false
  split
  · exact inv_hearA hp h false
  split
  · exact inv_dropB h
  split
  · exact inv_dropA h
  split
  · exact inv_remB h
  split
  · exact inv_remA h
  split
  · exact inv_hearB hp h true
  split
  · exact inv_hearA hp h true
  · exact h
theorem inv_runA (hp : PrOk p) : ∀ (l : List Int) {A B : TEnd}, XInv p A B → XInv p (runE l A B).1 (runE l A B).2
  | [], _, _, h => h
  | f :: l, _, _, h => inv_runA hp l (inv_stepA hp h f)
theorem inv_runB (hp : PrOk p) : ∀ (l : List Int) {A B : TEnd}, XInv p A B → XInv p (runE l B A).2 (runE l B A).1
  | [], _, _, h => h
  | f :: l, _, _, h => inv_runB hp l (inv_stepB hp h f)
theorem inv_0 (p : Pr) : XInv p ⟨opS p.oa p.ob p.L p.HA, [iD p.Lb]⟩ ⟨opS p.ob p.oa p.Lb p.HB, [iD p.L]⟩ :=
  ⟨0, 0, false, rfl, rfl, by omega, by omega, fun h => (by cases h), by omega, fun d hd => .inl (List.mem_singleton.1 hd), fun d hd => .inl (List.mem_singleton.1 hd)⟩

/-- What the invariant says of what either got. -/
theorem inv_got {A B : TEnd} (h : XInv p A B) : (∃ i, A.s.Got = p.HB.take i) ∧ (∃ i, B.s.Got = p.HA.take i) ∧ (A.s.Phase = 2 → A.s.Got = p.HB ∧ A.s.Leads = true) ∧ (B.s.Phase = 2 → B.s.Got = p.HA ∧ B.s.Leads = false) := by
  obtain ⟨k, n, dn, hA, hB, h1, h2, h3, h4, h5, h6⟩ := h
  rw [hA, hB]
  refine ⟨?_, ?_, fun h => ?_, fun h => ?_⟩
  · cases k with
    | zero => exact ⟨0, by simp [LeadS, opS]⟩
    | succ k => exact ⟨_, rfl⟩
  · cases n with
    | zero => exact ⟨0, by simp [FolS, opS]⟩
    | succ m => exact ⟨_, rfl⟩
  · cases k with
    | zero => simp [LeadS, opS] at h
    | succ k =>
      cases dn with
      | false => simp [LeadS] at h
      | true =>
        refine ⟨?_, rfl⟩
        have := (h3 rfl).2.2.2
        show p.HB.take (10 * (k + 2)) = p.HB
        exact List.take_of_length_le this
  · cases n with
    | zero => simp [FolS, opS] at h
    | succ m =>
      simp only [FolS] at h
      split at h
      · rename_i hf
        exact ⟨List.take_of_length_le hf.2.1, rfl⟩
      · simp at h
end Go.Proofs.Ytbmdpedhobkeeaa.Abs
