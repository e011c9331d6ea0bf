/- ExchAll and ExchDone. -/
import Derived.Test.YtbmdpedhobkeeaaL7
set_option linter.unusedVariables false
set_option linter.unusedSimpArgs false
set_option maxRecDepth 10000
namespace Go.Proofs.Ytbmdpedhobkeeaa.Abs
open Go
variable {p : Pr}

theorem u32_of {n : Int} (h : InK .u32 n) : 0 ≤ n ∧ n < 4294967296 := by
  have h1 : IntKind.u32.min = 0 := by decide
  have h2 : IntKind.u32.max = 4294967295 := by decide
  have := h
  simp only [InK, h1, h2] at this
  omega

theorem run19_op (a b : TStart) (l : List Int) (h1 : a.Heads.length ≤ 120) (h2 : b.Heads.length ≤ 120) (h3 : l.length ≤ 300) : F19_exch_Run (opS a.Own b.Own a.Seq a.Heads) (opS b.Own a.Own b.Seq b.Heads) l = some ((runE l ⟨opS a.Own b.Own a.Seq a.Heads, [iD b.Seq]⟩ ⟨opS b.Own a.Own b.Seq b.Heads, [iD a.Seq]⟩).1.s, (runE l ⟨opS a.Own b.Own a.Seq a.Heads, [iD b.Seq]⟩ ⟨opS b.Own a.Own b.Seq b.Heads, [iD a.Seq]⟩).2.s) := by
  have := run19 l 0 ⟨opS a.Own b.Own a.Seq a.Heads, [(opS b.Own a.Own b.Seq b.Heads).Last]⟩ ⟨opS b.Own a.Own b.Seq b.Heads, [(opS a.Own b.Own a.Seq a.Heads).Last]⟩ (op_bd _ _ _ _ _ _ h1) (op_bd _ _ _ _ _ _ h2) (by omega)
  unfold F19_exch_Run
  rw [this]
  rfl

theorem take_len {α : Type} {l g : List α} (h : ∃ i, g = l.take i) : g.length ≤ l.length ∧ l.take g.length = g := by
  obtain ⟨i, rfl⟩ := h
  rw [List.length_take]
  refine ⟨Nat.min_le_right _ _, ?_⟩
  by_cases hi : i ≤ l.length
  · rw [Nat.min_eq_left hi]
  · rw [Nat.min_eq_right (by omega), List.take_of_length_le (Nat.le_refl _), List.take_of_length_le (by omega)]

theorem exchAll_true (a b : TStart) (l : List Int) (ha : a.ok) (hb : b.ok) (_ : ∀ y ∈ l, InK .i64 y) : F5_crossroadslaw17_ExchAll a b l = some true := by
  unfold F5_crossroadslaw17_ExchAll
  by_cases h1 : 120 < (a.Heads.length : Int)
  · rw [decide_eq_true h1]; exact alive_true
  by_cases h2 : 120 < (b.Heads.length : Int)
  · rw [decide_eq_false h1, decide_eq_true h2]; exact alive_true
  by_cases h3 : 120 < (l.length : Int)
  · rw [decide_eq_false h1, decide_eq_false h2, decide_eq_true h3]; exact alive_true
  by_cases h4 : a.Own = b.Own
  · rw [decide_eq_false h1, decide_eq_false h2, decide_eq_false h3, decide_eq_true h4]; exact alive_true
  rw [decide_eq_false h1, decide_eq_false h2, decide_eq_false h3, decide_eq_false h4, open9 _ _ _ (by omega), open9 _ _ _ (by omega)]
  simp only [cond_false]
  rw [run19_op a b l (by omega) (by omega) (by omega), alive_true]
  have key : ∃ q : Bool, (∃ i, (runE l ⟨opS a.Own b.Own a.Seq a.Heads, [iD b.Seq]⟩ ⟨opS b.Own a.Own b.Seq b.Heads, [iD a.Seq]⟩).1.s.Got = b.Heads.take i) ∧ (∃ i, (runE l ⟨opS a.Own b.Own a.Seq a.Heads, [iD b.Seq]⟩ ⟨opS b.Own a.Own b.Seq b.Heads, [iD a.Seq]⟩).2.s.Got = a.Heads.take i) ∧
      ((runE l ⟨opS a.Own b.Own a.Seq a.Heads, [iD b.Seq]⟩ ⟨opS b.Own a.Own b.Seq b.Heads, [iD a.Seq]⟩).1.s.Phase = 2 → (runE l ⟨opS a.Own b.Own a.Seq a.Heads, [iD b.Seq]⟩ ⟨opS b.Own a.Own b.Seq b.Heads, [iD a.Seq]⟩).1.s.Got = b.Heads ∧ (runE l ⟨opS a.Own b.Own a.Seq a.Heads, [iD b.Seq]⟩ ⟨opS b.Own a.Own b.Seq b.Heads, [iD a.Seq]⟩).1.s.Leads = q) ∧
      ((runE l ⟨opS a.Own b.Own a.Seq a.Heads, [iD b.Seq]⟩ ⟨opS b.Own a.Own b.Seq b.Heads, [iD a.Seq]⟩).2.s.Phase = 2 → (runE l ⟨opS a.Own b.Own a.Seq a.Heads, [iD b.Seq]⟩ ⟨opS b.Own a.Own b.Seq b.Heads, [iD a.Seq]⟩).2.s.Got = a.Heads ∧ (runE l ⟨opS a.Own b.Own a.Seq a.Heads, [iD b.Seq]⟩ ⟨opS b.Own a.Own b.Seq b.Heads, [iD a.Seq]⟩).2.s.Leads = !q) := by
    have ua := u32_of ha.2.2.1
    have ub := u32_of hb.2.2.1
    rcases Int.lt_or_gt_of_ne h4 with h | h
    · have hi := inv_got (inv_runB (p := ⟨b.Own, a.Own, b.Seq, a.Seq, b.Heads, a.Heads⟩) ⟨h, ub.1, ub.2, by show b.Heads.length ≤ 120; omega, by show a.Heads.length ≤ 120; omega⟩ l (inv_0 _))
      exact ⟨false, hi.2.1, hi.1, hi.2.2.2, hi.2.2.1⟩
    · have hi := inv_got (inv_runA (p := ⟨a.Own, b.Own, a.Seq, b.Seq, a.Heads, b.Heads⟩) ⟨h, ua.1, ua.2, by show a.Heads.length ≤ 120; omega, by show b.Heads.length ≤ 120; omega⟩ l (inv_0 _))
      exact ⟨true, hi.1, hi.2.1, hi.2.2.1, hi.2.2.2⟩
  revert key
  generalize runE l ⟨opS a.Own b.Own a.Seq a.Heads, [iD b.Seq]⟩ ⟨opS b.Own a.Own b.Seq b.Heads, [iD a.Seq]⟩ = r
  rintro ⟨q, k1, k2, k3, k4⟩
  obtain ⟨⟨x, wx⟩, ⟨y, wy⟩⟩ := r
  dsimp only at k1 k2 k3 k4 ⊢
  obtain ⟨t1, t2⟩ := take_len k1
  obtain ⟨t3, t4⟩ := take_len k2
  rw [decide_eq_false (show ¬ (b.Heads.length : Int) < (x.Got.length : Int) by omega), decide_eq_false (show ¬ (a.Heads.length : Int) < (y.Got.length : Int) by omega), decide_eq_true (show (0 : Int) ≤ (x.Got.length : Int) by omega),
    decide_eq_true (show (x.Got.length : Int) ≤ (b.Heads.length : Int) by omega), decide_eq_true (show (0 : Int) ≤ (y.Got.length : Int) by omega), decide_eq_true (show (y.Got.length : Int) ≤ (a.Heads.length : Int) by omega), Int.toNat_natCast, Int.toNat_natCast, t2, t4]
  simp only [Heads_refl, cond_true, cond_false]
  by_cases hx : x.Phase = 2
  · by_cases hy : y.Phase = 2
    · rw [decide_eq_true hx, decide_eq_true hy, (k3 hx).1, (k4 hy).1, (k3 hx).2, (k4 hy).2]
      simp only [decide_true, cond_true]
      cases q <;> rfl
    · rw [decide_eq_true hx, decide_eq_false hy]
      rfl
  · rw [decide_eq_false hx]
    rfl

/-! ### ExchDone -/
def rep : Nat → List Int
  | 0 => []
  | t + 1 => 0 :: 1 :: rep t
theorem rep_len : ∀ t, (rep t).length = 2 * t
  | 0 => rfl
  | t + 1 => by simp only [rep, List.length_cons, rep_len t]; omega
theorem bound_eq {la lb : Nat} (h1 : la ≤ 120) (h2 : lb ≤ 120) : IntKind.i64.wrap ((IntKind.i64.wrap (Int.tdiv (max_ (la : Int) (lb : Int)) 10)) + 5) = ((max la lb / 10 + 5 : Nat) : Int) := by
  have e : max_ (la : Int) (lb : Int) = ((max la lb : Nat) : Int) := by unfold max_; split <;> omega
  have e2 : Int.tdiv ((max la lb : Nat) : Int) 10 = ((max la lb / 10 : Nat) : Int) := rfl
  rw [e, e2, wrap64_of (x := ((max la lb / 10 : Nat) : Int)) (by omega) (by omega), wrap64_of (by omega) (by omega)]
  omega
theorem fates_loop (a b : TStart) {N : Nat} (hN : IntKind.i64.wrap ((IntKind.i64.wrap (Int.tdiv (max_ (a.Heads.length : Int) (b.Heads.length : Int)) 10)) + 5) = (N : Int)) (hN2 : N ≤ 1000) :
    ∀ (n i fuel : Nat) (fs : List Int), i + n = N → n ≤ fuel → fs.length + 4 * n ≤ 10000 → F6_crossroadslaw17_ExchDone_l1 a b fuel fs (i : Int) = some (fs ++ rep (2 * n))
  | 0, i, fuel, fs, h1, h2, h3 => by
    rw [F6_crossroadslaw17_ExchDone_l1_u, hN, decide_eq_false (by omega)]
    simp [rep]
  | n + 1, i, 0, fs, h1, h2, h3 => by omega
  | n + 1, i, fuel + 1, fs, h1, h2, h3 => by
    rw [F6_crossroadslaw17_ExchDone_l1_u, hN, decide_eq_true (by omega)]
    simp only [cond_true]
    rw [decide_eq_true (show fs.length < 1099511627776 by omega), wrap64_of (by omega) (by omega)]
    have ih := fates_loop a b hN hN2 n (i + 1) fuel (fs ++ [0, 1, 0, 1]) (by omega) (by omega) (by simp only [List.length_append, List.length_cons, List.length_nil]; omega)
    rw [show ((i : Int) + 1) = ((i + 1 : Nat) : Int) by omega]
    simp only [cond_true]
    rw [ih, show 2 * (n + 1) = 2 * n + 1 + 1 by omega]
    simp [rep]

def Done (r : TEnd × TEnd) : Prop := r.1.s.Phase = 2 ∧ r.2.s.Phase = 2
theorem idle (s s' : TSession) : ∀ t, runE (rep t) ⟨s, []⟩ ⟨s', []⟩ = (⟨s, []⟩, ⟨s', []⟩)
  | 0 => rfl
  | t + 1 => idle s s' t
theorem lead_ph {k : Nat} (h : fin p k) : (LeadS p k true).Phase = 2 := by
  cases k with
  | zero => exact absurd h.1 (by decide)
  | succ k => rfl
theorem fol_ph {m : Nat} (h : fin p m) : (FolS p (m + 1)).Phase = 2 := by
  show (if fin p m then (2 : Int) else 1) = 2
  rw [if_pos h]
theorem fin_up {k M : Nat} (h : fin p M) (hk : M ≤ k) : fin p k := ⟨by have := h.1; omega, by have := h.2.1; omega, by have := h.2.2; omega⟩
theorem run_pair (t : Nat) (x y : TEnd) : runE (rep (t + 1)) x y = runE (rep t) (swapE (hearE (hearE x y false).2 (hearE x y false).1 false)).1 (swapE (hearE (hearE x y false).2 (hearE x y false).1 false)).2 := rfl
theorem hearE1 {s : TSession} {d : TDesc} {l : List TDesc} {y : TEnd} {s' : TSession} {o : TDesc} {e : Int} (h : hearT s d = (s', o, true, e)) : hearE ⟨s, d :: l⟩ y false = (⟨s', l⟩, ⟨y.s, y.waits ++ [o]⟩) := by
  unfold hearE
  simp only [h]
  rfl
theorem hearE0 {s : TSession} {d : TDesc} {l : List TDesc} {y : TEnd} (h : Noop s (hearT s d)) : hearE ⟨s, d :: l⟩ y false = (⟨s, l⟩, y) := by
  unfold hearE
  simp only [h.1, h.2]
  rfl
theorem hearEn {s : TSession} {y : TEnd} : hearE ⟨s, []⟩ y false = (⟨s, []⟩, y) := rfl

theorem simA (hp : PrOk p) {M : Nat} (hM : fin p M) (hM2 : M ≤ 20) : ∀ (t k : Nat), k ≤ M → M + 1 ≤ k + t → Done (runE (rep t) ⟨LeadS p k false, [mB p k]⟩ ⟨FolS p (k + 1), []⟩)
  | 0, k, h1, h2 => by omega
  | t + 1, k, h1, h2 => by
    rw [run_pair]
    have hg := lead_go hp (k := k) (by omega)
    by_cases hf : fin p k
    · rw [if_pos hf] at hg
      have e1 : hearE ⟨LeadS p k false, [mB p k]⟩ ⟨FolS p (k + 1), []⟩ false = (⟨LeadS p k true, []⟩, ⟨FolS p (k + 1), []⟩) := by
        unfold hearE
        simp only [hg]
        rfl
      rw [e1, hearEn]
      show Done (runE (rep t) ⟨LeadS p k true, []⟩ ⟨FolS p (k + 1), []⟩)
      rw [idle]
      exact ⟨lead_ph hf, fol_ph hf⟩
    · rw [if_neg hf] at hg
      have hk : k < M := by
        rcases Nat.lt_or_ge k M with h | h
        · exact h
        · exact absurd (fin_up hM h) hf
      rw [hearE1 hg]
      dsimp only
      rw [List.nil_append, hearE1 ((fol_go (p := p) (m := k) (by omega)).2 hf)]
      exact simA hp hM hM2 t (k + 1) (by omega) (by omega)

theorem simB (hp : PrOk p) {M : Nat} (hM : fin p M) (hM2 : M ≤ 20) : ∀ (t j : Nat), ¬ fin p j → M ≤ j + t → Done (runE (rep t) ⟨FolS p (j + 1), [mA p j]⟩ ⟨LeadS p (j + 1) false, []⟩)
  | 0, j, h1, h2 => absurd (fin_up hM (by omega)) h1
  | t + 1, j, h1, h2 => by
    rw [run_pair]
    have hj : j < M := by
      rcases Nat.lt_or_ge j M with h | h
      · exact h
      · exact absurd (fin_up hM h) h1
    rw [hearE1 ((fol_go (p := p) (m := j) (by omega)).2 h1)]
    dsimp only
    rw [List.nil_append]
    have hg := lead_go hp (k := j + 1) (by omega)
    by_cases hf : fin p (j + 1)
    · rw [if_pos hf] at hg
      have e1 : hearE ⟨LeadS p (j + 1) false, [mB p (j + 1)]⟩ ⟨FolS p (j + 2), []⟩ false = (⟨LeadS p (j + 1) true, []⟩, ⟨FolS p (j + 2), []⟩) := by
        unfold hearE
        simp only [hg]
        rfl
      rw [e1]
      show Done (runE (rep t) ⟨FolS p (j + 2), []⟩ ⟨LeadS p (j + 1) true, []⟩)
      rw [idle]
      exact ⟨fol_ph hf, lead_ph hf⟩
    · rw [if_neg hf] at hg
      rw [hearE1 hg]
      exact simB hp hM hM2 t (j + 1) hf (by omega)

theorem doneA (hp : PrOk p) {M t : Nat} (hM : fin p M) (hM2 : M ≤ 20) (ht : M + 2 ≤ t) : Done (runE (rep t) ⟨opS p.oa p.ob p.L p.HA, [iD p.Lb]⟩ ⟨opS p.ob p.oa p.Lb p.HB, [iD p.L]⟩) := by
  obtain ⟨t, rfl⟩ : ∃ t', t = t' + 1 := ⟨t - 1, by omega⟩
  rw [run_pair, show opS p.oa p.ob p.L p.HA = LeadS p 0 false from rfl, hearE0 (lead_i hp 0 false p.Lb)]
  dsimp only
  rw [show opS p.ob p.oa p.Lb p.HB = FolS p 0 from rfl, hearE1 (fol_i0 hp)]
  exact simA hp hM hM2 t 0 (by omega) (by omega)
theorem doneB (hp : PrOk p) {M t : Nat} (hM : fin p M) (hM2 : M ≤ 20) (ht : M + 3 ≤ t) : Done (runE (rep t) ⟨opS p.ob p.oa p.Lb p.HB, [iD p.L]⟩ ⟨opS p.oa p.ob p.L p.HA, [iD p.Lb]⟩) := by
  obtain ⟨t, rfl⟩ : ∃ t', t = t' + 2 := ⟨t - 2, by omega⟩
  rw [run_pair, show opS p.ob p.oa p.Lb p.HB = FolS p 0 from rfl, hearE1 (fol_i0 hp)]
  dsimp only
  rw [show opS p.oa p.ob p.L p.HA = LeadS p 0 false from rfl, List.cons_append, List.nil_append, hearE0 (lead_i hp 0 false p.Lb)]
  show Done (runE (rep (t + 1)) ⟨FolS p 1, []⟩ ⟨LeadS p 0 false, [mB p 0]⟩)
  have hg := lead_go hp (k := 0) (by omega)
  rw [if_neg (by simp [fin])] at hg
  rw [run_pair, hearEn]
  dsimp only
  rw [hearE1 hg]
  exact simB hp hM hM2 t 0 (by simp [fin]) (by omega)

theorem exchDone_true (a b : TStart) (ha : a.ok) (hb : b.ok) : F6_crossroadslaw17_ExchDone a b = some true := by
  unfold F6_crossroadslaw17_ExchDone
  by_cases h1 : 120 < (a.Heads.length : Int)
  · rw [decide_eq_true h1]; exact alive_true
  by_cases h2 : 120 < (b.Heads.length : Int)
  · rw [decide_eq_false h1, decide_eq_true h2]; exact alive_true
  by_cases h4 : a.Own = b.Own
  · rw [decide_eq_false h1, decide_eq_false h2, decide_eq_true h4]; exact alive_true
  have hN := bound_eq (la := a.Heads.length) (lb := b.Heads.length) (by omega) (by omega)
  have hmx : max a.Heads.length b.Heads.length / 10 + 5 ≤ 20 := by omega
  have hfl := fates_loop a b hN (by omega) (max a.Heads.length b.Heads.length / 10 + 5) 0 (max a.Heads.length b.Heads.length / 10 + 5) [] (by omega) (Nat.le_refl _) (by simp only [List.length_nil]; omega)
  have hfu : fuelUp 0 ((max a.Heads.length b.Heads.length / 10 + 5 : Nat) : Int) = max a.Heads.length b.Heads.length / 10 + 5 := by
    unfold fuelUp
    rw [if_pos (by decide)]
    omega
  rw [decide_eq_false h1, decide_eq_false h2, decide_eq_false h4, open9 _ _ _ (by omega), open9 _ _ _ (by omega), hN, hfu]
  rw [show ((0 : Nat) : Int) = 0 from rfl] at hfl
  rw [hfl, List.nil_append]
  simp only [cond_false]
  rw [run19_op a b _ (by omega) (by omega) (by rw [rep_len]; omega), alive_true]
  have key : Done (runE (rep (2 * (max a.Heads.length b.Heads.length / 10 + 5))) ⟨opS a.Own b.Own a.Seq a.Heads, [iD b.Seq]⟩ ⟨opS b.Own a.Own b.Seq b.Heads, [iD a.Seq]⟩) := by
    have ua := u32_of ha.2.2.1
    have ub := u32_of hb.2.2.1
    rcases Int.lt_or_gt_of_ne h4 with h | h
    · exact doneB (p := ⟨b.Own, a.Own, b.Seq, a.Seq, b.Heads, a.Heads⟩) (M := max a.Heads.length b.Heads.length / 10 + 1) ⟨h, ub.1, ub.2, by show b.Heads.length ≤ 120; omega, by show a.Heads.length ≤ 120; omega⟩
        ⟨by omega, by show b.Heads.length ≤ _; omega, by show a.Heads.length ≤ _; omega⟩ (by omega) (by omega)
    · exact doneA (p := ⟨a.Own, b.Own, a.Seq, b.Seq, a.Heads, b.Heads⟩) (M := max a.Heads.length b.Heads.length / 10 + 1) ⟨h, ua.1, ua.2, by show a.Heads.length ≤ 120; omega, by show b.Heads.length ≤ 120; omega⟩
        ⟨by omega, by show a.Heads.length ≤ _; omega, by show b.Heads.length ≤ _; omega⟩ (by omega) (by omega)
  obtain ⟨k1, k2⟩ := key
  simp only [cond_true]
  rw [decide_eq_true k1, decide_eq_true k2]
  rfl
end Go.Proofs.Ytbmdpedhobkeeaa.Abs
