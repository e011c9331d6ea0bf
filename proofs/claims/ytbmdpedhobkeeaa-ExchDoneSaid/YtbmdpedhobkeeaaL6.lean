/- Runs of two sessions, without guards; ExchRun. -/
import Derived.Test.YtbmdpedhobkeeaaL5
set_option linter.unusedVariables false
set_option linter.unusedSimpArgs false
set_option maxRecDepth 10000
namespace Go.Proofs.Ytbmdpedhobkeeaa.Abs
open Go

def hearE (x y : TEnd) (again : Bool) : TEnd × TEnd :=
  match x.waits with
  | [] => (x, y)
  | d :: l => (⟨(hearT x.s d).1, if again = true then l ++ [d] else l⟩, if (hearT x.s d).2.2.1 = true then ⟨y.s, y.waits ++ [(hearT x.s d).2.1]⟩ else y)
def dropE (x : TEnd) : TEnd := ⟨x.s, x.waits.tail⟩
def remE (x y : TEnd) : TEnd := if (F17_exch_Again x.s).2 = true then ⟨y.s, y.waits ++ [(F17_exch_Again x.s).1]⟩ else y
def swapE (p : TEnd × TEnd) : TEnd × TEnd := (p.2, p.1)
def stepE (x y : TEnd) (f : Int) : TEnd × TEnd :=
  if f = 0 then hearE x y false else if f = 1 then swapE (hearE y x false)
  else if f = 2 then (dropE x, y) else if f = 3 then (x, dropE y)
  else if f = 4 then (x, remE x y) else if f = 5 then (remE y x, y)
  else if f = 6 then hearE x y true else if f = 7 then swapE (hearE y x true) else (x, y)
def runE : List Int → TEnd → TEnd → TEnd × TEnd
  | [], x, y => (x, y)
  | f :: l, x, y => runE l (stepE x y f).1 (stepE x y f).2

/-- Behind n steps. -/
def SBd (n : Nat) (s : TSession) : Prop := s.Left.length ≤ 120 ∧ s.Got.length ≤ 10 * n ∧ s.Last.Heads.length ≤ 10
def EB (n : Nat) (e : TEnd) : Prop := SBd n e.s ∧ (∀ d ∈ e.waits, d.Heads.length ≤ 10) ∧ e.waits.length ≤ 1 + n

theorem pg_bd {n : Nat} {s : TSession} (h : s.Left.length ≤ 120) (hg : s.Got.length ≤ 10 * n) : SBd n (pgS s) ∧ (pgD s).Heads.length ≤ 10 := by
  have : (s.Left.take 10).length ≤ 10 := by rw [List.length_take]; omega
  refine ⟨⟨?_, hg, this⟩, this⟩
  show (s.Left.drop 10).length ≤ 120
  rw [List.length_drop]
  omega
theorem got_bd {n : Nat} {s : TSession} {d : TDesc} (q : Int) (h : SBd n s) (hd : d.Heads.length ≤ 10) : SBd (n + 1) (gotS s d q) := by
  refine ⟨h.1, ?_, h.2.2⟩
  show (s.Got ++ d.Heads).length ≤ _
  rw [List.length_append]
  have := h.2.1
  omega
theorem SBd.up {n : Nat} {s : TSession} (h : SBd n s) : SBd (n + 1) s := ⟨h.1, by have := h.2.1; omega, h.2.2⟩
theorem dNo_bd : dNo.Heads.length ≤ 10 := by decide
theorem lead_bd {n : Nat} {s : TSession} {d : TDesc} (h : SBd n s) (hd : d.Heads.length ≤ 10) : SBd (n + 1) (leadT s d).1 ∧ (leadT s d).2.1.Heads.length ≤ 10 := by
  unfold leadT
  split
  · exact ⟨h.up, dNo_bd⟩
  · split
    · split
      · exact ⟨h.up, dNo_bd⟩
      · split
        · exact ⟨got_bd s.Seq h hd, dNo_bd⟩
        · exact pg_bd (n := n + 1) (got_bd (IntKind.u32.wrap (s.Seq + 1)) h hd).1 (got_bd (IntKind.u32.wrap (s.Seq + 1)) h hd).2.1
    · exact ⟨h.up, dNo_bd⟩
theorem follow_bd {n : Nat} {s : TSession} {d : TDesc} (h : SBd n s) (hd : d.Heads.length ≤ 10) : SBd (n + 1) (followT s d).1 ∧ (followT s d).2.1.Heads.length ≤ 10 := by
  unfold followT
  split
  · exact ⟨h.up, h.2.2⟩
  · split
    · split
      · exact ⟨h.up, dNo_bd⟩
      · split
        · exact pg_bd (n := n + 1) (got_bd d.Seq h hd).1 (got_bd d.Seq h hd).2.1
        · exact pg_bd (n := n + 1) (got_bd d.Seq h hd).1 (got_bd d.Seq h hd).2.1
    · exact ⟨h.up, dNo_bd⟩
theorem hear_bd {n : Nat} {s : TSession} {d : TDesc} (h : SBd n s) (hd : d.Heads.length ≤ 10) : SBd (n + 1) (hearT s d).1 ∧ (hearT s d).2.1.Heads.length ≤ 10 := by
  unfold hearT
  split
  · split
    · split
      · exact pg_bd (n := n + 1) h.1 h.up.2.1
      · exact ⟨h.up, dNo_bd⟩
    · split
      · exact lead_bd (n := n) (s := ⟨s.Own, s.Peer, 1, true, s.Seq, s.Left, s.Got, s.Last⟩) h hd
      · exact ⟨h.up, dNo_bd⟩
  · split
    · exact ⟨h.up, dNo_bd⟩
    · split
      · exact ⟨h.up, dNo_bd⟩
      · split
        · exact lead_bd h hd
        · exact follow_bd h hd

theorem EB.up {n : Nat} {e : TEnd} (h : EB n e) : EB (n + 1) e := ⟨h.1.up, h.2.1, by have := h.2.2; omega⟩
theorem EB.more {n : Nat} {e : TEnd} {d : TDesc} (h : EB n e) (hd : d.Heads.length ≤ 10) : EB (n + 1) ⟨e.s, e.waits ++ [d]⟩ := by
  refine ⟨h.1.up, fun x hx => ?_, ?_⟩
  · rcases List.mem_append.1 hx with hx | hx
    · exact h.2.1 x hx
    · rw [List.mem_singleton.1 hx]; exact hd
  · have := h.2.2
    simp only [List.length_append, List.length_singleton]
    omega
theorem hearE_bd {n : Nat} {x y : TEnd} (hx : EB n x) (hy : EB n y) (again : Bool) : EB (n + 1) (hearE x y again).1 ∧ EB (n + 1) (hearE x y again).2 := by
  unfold hearE
  split
  · exact ⟨hx.up, hy.up⟩
  · rename_i d l hw
    have hd : d.Heads.length ≤ 10 := hx.2.1 d (by rw [hw]; simp)
    have hb := hear_bd hx.1 hd
    have hl := hx.2.2
    rw [hw] at hl
    simp only [List.length_cons] at hl
    refine ⟨⟨hb.1, fun e he => ?_, ?_⟩, ?_⟩
    · refine hx.2.1 e ?_
      rw [hw]
      cases again
      · simp only [Bool.false_eq_true, if_false] at he
        exact List.mem_cons_of_mem _ he
      · simp only [if_true, List.mem_append, List.mem_singleton] at he
        rcases he with he | he
        · exact List.mem_cons_of_mem _ he
        · rw [he]; exact List.mem_cons_self
    · cases again <;> simp <;> omega
    · show EB (n + 1) (if (hearT x.s d).2.2.1 = true then _ else y)
      split
      · exact hy.more hb.2
      · exact hy.up
theorem again_bd {n : Nat} {s : TSession} (h : SBd n s) : (F17_exch_Again s).1.Heads.length ≤ 10 := by
  unfold F17_exch_Again
  cases decide (s.Phase = 0) <;> simp only [cond_true, cond_false]
  · cases s.Leads <;> simp only [cond_true, cond_false]
    · decide
    · cases decide (s.Phase = 1) <;> simp only [cond_true, cond_false]
      · decide
      · exact h.2.2
  · exact h.2.2
theorem remE_bd {n : Nat} {x y : TEnd} (hx : EB n x) (hy : EB n y) : EB (n + 1) (remE x y) := by
  unfold remE
  split
  · exact hy.more (again_bd hx.1)
  · exact hy.up
theorem dropE_bd {n : Nat} {x : TEnd} (hx : EB n x) : EB (n + 1) (dropE x) := by
  refine ⟨hx.1.up, fun d hd => hx.2.1 d (List.mem_of_mem_tail hd), ?_⟩
  have := hx.2.2
  show x.waits.tail.length ≤ _
  rw [List.length_tail]
  omega
theorem stepE_bd {n : Nat} {x y : TEnd} (hx : EB n x) (hy : EB n y) (f : Int) : EB (n + 1) (stepE x y f).1 ∧ EB (n + 1) (stepE x y f).2 := by
  unfold stepE
  split
  · exact hearE_bd hx hy false
  split
  · exact (hearE_bd hy hx false).symm
  split
  · exact ⟨dropE_bd hx, hy.up⟩
  split
  · exact ⟨hx.up, dropE_bd hy⟩
  split
  · exact ⟨hx.up, remE_bd hx hy⟩
  split
  · exact ⟨remE_bd hy hx, hy.up⟩
  split
  · exact hearE_bd hx hy true
  split
  · exact (hearE_bd hy hx true).symm
  · exact ⟨hx.up, hy.up⟩

theorem SBd.sb {n : Nat} {s : TSession} (h : SBd n s) (hn : n ≤ 400) : SB s := ⟨by have := h.1; omega, by have := h.2.1; omega⟩

theorem next33 {x : TEnd} {d : TDesc} {l : List TDesc} (hx : x.waits = d :: l) (hl : l.length < 1099511627776) (again : Bool) : F33_exch_end_next x again = some (d, true, ⟨x.s, if again = true then l ++ [d] else l⟩) := by
  unfold F33_exch_end_next
  have h0 : ¬ ((x.waits.length : Int) = 0) := by rw [hx]; simp only [List.length_cons]; omega
  have h1 : (1 : Int) ≤ (x.waits.length : Int) := by rw [hx]; simp only [List.length_cons]; omega
  have h2 : getI x.waits 0 = some d := by rw [hx]; rfl
  have h3 : x.waits.drop 1 = l := by rw [hx]; rfl
  rw [decide_eq_false h0, decide_eq_true h1, h2, h3, decide_eq_true hl]
  cases again <;> rfl
theorem next33n {x : TEnd} (hx : x.waits = []) (again : Bool) : F33_exch_end_next x again = some (dNo, false, x) := by
  unfold F33_exch_end_next
  rw [hx]
  rfl
theorem hear32 {n : Nat} {x y : TEnd} (hx : EB n x) (hy : EB n y) (hn : n ≤ 400) (again : Bool) : F32_exch_end_hear x y again = some (hearE x y again) := by
  unfold F32_exch_end_hear hearE
  cases hw : x.waits with
  | nil => rw [next33n hw]; rfl
  | cons d l =>
    have hl := hx.2.2
    rw [hw] at hl
    simp only [List.length_cons] at hl
    have hd : d.Heads.length ≤ 10 := hx.2.1 d (by rw [hw]; simp)
    rw [next33 hw (by omega)]
    dsimp only
    rw [hear15 x.s d (hx.1.sb hn) (by omega)]
    generalize hearT x.s d = r
    obtain ⟨s, o, b, e⟩ := r
    dsimp only
    have hy2 := hy.2.2
    rw [decide_eq_true (show y.waits.length < 1099511627776 by omega)]
    cases b <;> rfl
theorem rem34 {n : Nat} {x y : TEnd} (hy : EB n y) (hn : n ≤ 400) : F34_exch_end_remind x y = some (x, remE x y) := by
  unfold F34_exch_end_remind remE
  generalize F17_exch_Again x.s = r
  obtain ⟨d, b⟩ := r
  dsimp only
  have hy2 := hy.2.2
  rw [decide_eq_true (show y.waits.length < 1099511627776 by omega)]
  cases b <;> rfl
theorem drop33 {n : Nat} {x : TEnd} (hx : EB n x) (hn : n ≤ 400) : ∃ a b, F33_exch_end_next x false = some (a, b, dropE x) := by
  cases hw : x.waits with
  | nil => exact ⟨_, _, by rw [next33n hw]; unfold dropE; rw [hw]; cases x; simp only at hw; subst hw; rfl⟩
  | cons d l =>
    have hl := hx.2.2
    rw [hw] at hl
    simp only [List.length_cons] at hl
    exact ⟨_, _, by rw [next33 hw (by omega)]; unfold dropE; rw [hw]; rfl⟩

theorem run19 : ∀ (l : List Int) (n : Nat) (x y : TEnd), EB n x → EB n y → n + l.length ≤ 400 → F19_exch_Run_l1 x y l = some (runE l x y)
  | [], n, x, y, hx, hy, hn => rfl
  | f :: l, n, x, y, hx, hy, hn => by
    have hb := stepE_bd hx hy f
    simp only [List.length_cons] at hn
    have ih := run19 l (n + 1) (stepE x y f).1 (stepE x y f).2 hb.1 hb.2 (by omega)
    rw [F19_exch_Run_l1, runE, ← ih]
    have k1 : ∀ a, F32_exch_end_hear x y a = some (hearE x y a) := hear32 hx hy (by omega)
    have k2 : ∀ a, F32_exch_end_hear y x a = some (hearE y x a) := hear32 hy hx (by omega)
    obtain ⟨a1, b1, k3⟩ := drop33 hx (by omega)
    obtain ⟨a2, b2, k4⟩ := drop33 hy (by omega)
    have k5 : F34_exch_end_remind x y = _ := rem34 hy (by omega)
    have k6 : F34_exch_end_remind y x = _ := rem34 hx (by omega)
    have e0 : bit_and .i64 0 1 = 0 := by decide
    have e1 : ¬ bit_and .i64 1 1 = 0 := by decide
    have e2 : bit_and .i64 2 1 = 0 := by decide
    have e3 : ¬ bit_and .i64 3 1 = 0 := by decide
    have e4 : bit_and .i64 4 1 = 0 := by decide
    have e5 : ¬ bit_and .i64 5 1 = 0 := by decide
    have e6 : bit_and .i64 6 1 = 0 := by decide
    have e7 : ¬ bit_and .i64 7 1 = 0 := by decide
    rw [k1, k1, k2, k2, k3, k4, k5, k6]
    unfold stepE
    by_cases h0 : f = 0
    · subst h0; rw [decide_eq_true e0]; rfl
    by_cases h1 : f = 1
    · subst h1; rw [decide_eq_false e1]; rfl
    by_cases h2 : f = 2
    · subst h2; rw [decide_eq_true e2]; rfl
    by_cases h3 : f = 3
    · subst h3; rw [decide_eq_false e3]; rfl
    by_cases h4 : f = 4
    · subst h4; rw [decide_eq_true e4]; rfl
    by_cases h5 : f = 5
    · subst h5; rw [decide_eq_false e5]; rfl
    by_cases h6 : f = 6
    · subst h6; rw [decide_eq_true e6]; rfl
    by_cases h7 : f = 7
    · subst h7; rw [decide_eq_false e7]; rfl
    simp only [decide_eq_false h0, decide_eq_false h1, decide_eq_false h2, decide_eq_false h3, decide_eq_false h4, decide_eq_false h5, decide_eq_false h6, decide_eq_false h7, if_neg h0, if_neg h1, if_neg h2, if_neg h3, if_neg h4, if_neg h5, if_neg h6, if_neg h7, cond_false]
    cases decide (bit_and .i64 f 1 = 0) <;> rfl

def out4 (p : TEnd × TEnd) : TSession × TSession × List TDesc × List TDesc := (p.1.s, p.2.s, p.1.waits, p.2.waits)

theorem run20 : ∀ (l : List Int) (n : Nat) (a b : TSession) (ta tb : List TDesc), EB n ⟨a, ta⟩ → EB n ⟨b, tb⟩ → n + l.length ≤ 400 → F20_crossroadsref17_Run_l1 a b ta tb l = some (out4 (runE l ⟨a, ta⟩ ⟨b, tb⟩))
  | [], n, a, b, ta, tb, hx, hy, hn => rfl
  | f :: l, n, a, b, ta, tb, hx, hy, hn => by
    have hb := stepE_bd hx hy f
    simp only [List.length_cons] at hn
    have ih := run20 l (n + 1) (stepE ⟨a, ta⟩ ⟨b, tb⟩ f).1.s (stepE ⟨a, ta⟩ ⟨b, tb⟩ f).2.s (stepE ⟨a, ta⟩ ⟨b, tb⟩ f).1.waits (stepE ⟨a, ta⟩ ⟨b, tb⟩ f).2.waits hb.1 hb.2 (by omega)
    rw [runE, ← ih, F20_crossroadsref17_Run_l1]
    have hA : F18_crossroadsref17_Again = F17_exch_Again := rfl
    have la := hx.2.2
    have lb := hy.2.2
    simp only at la lb
    have ga : decide (ta.length < 1099511627776) = true := decide_eq_true (by omega)
    have gb : decide (tb.length < 1099511627776) = true := decide_eq_true (by omega)
    have ga' : decide ((ta.drop 1).length < 1099511627776) = true := decide_eq_true (by rw [List.length_drop]; omega)
    have gb' : decide ((tb.drop 1).length < 1099511627776) = true := decide_eq_true (by rw [List.length_drop]; omega)
    rw [hA, ga, gb, ga', gb']
    unfold stepE
    have hear_a : ∀ d ∈ ta, F16_crossroadsref17_Hear a d = some (hearT a d) := fun d hd => hear16 a d (hx.1.sb (by omega)) (by have := hx.2.1 d hd; omega)
    have hear_b : ∀ d ∈ tb, F16_crossroadsref17_Hear b d = some (hearT b d) := fun d hd => hear16 b d (hy.1.sb (by omega)) (by have := hy.2.1 d hd; omega)
    by_cases h4 : f = 4
    · subst h4
      simp only [decide_true, cond_true]
      show (match F17_exch_Again a with | (c46a, c46b) => _) = F20_crossroadsref17_Run_l1 a (remE ⟨a, ta⟩ ⟨b, tb⟩).s ta (remE ⟨a, ta⟩ ⟨b, tb⟩).waits l
      unfold remE
      dsimp only
      generalize F17_exch_Again a = r
      obtain ⟨d, q⟩ := r
      cases q <;> rfl
    by_cases h5 : f = 5
    · subst h5
      simp only [decide_true, cond_true]
      show (match F17_exch_Again b with | (c58a, c58b) => _) = F20_crossroadsref17_Run_l1 (remE ⟨b, tb⟩ ⟨a, ta⟩).s b (remE ⟨b, tb⟩ ⟨a, ta⟩).waits tb l
      unfold remE
      dsimp only
      generalize F17_exch_Again b = r
      obtain ⟨d, q⟩ := r
      cases q <;> rfl
    simp only [decide_eq_false h4, decide_eq_false h5, cond_false, if_neg h4, if_neg h5]
    have pos : ∀ (t : TDesc) (r : List TDesc), decide ((0 : Int) < ((t :: r).length : Int)) = true ∧ decide ((1 : Int) ≤ ((t :: r).length : Int)) = true := fun t r => by
      simp only [List.length_cons, decide_eq_true_eq]; omega
    have gi : ∀ (t : TDesc) (r : List TDesc), getI (t :: r) 0 = some t := fun _ _ => rfl
    have dr : ∀ (t : TDesc) (r : List TDesc), (t :: r).drop 1 = r := fun _ _ => rfl
    by_cases h0 : f = 0
    · subst h0
      simp only [decide_true, cond_true, if_true]
      cases ta with
      | nil => rfl
      | cons t r =>
        rw [(pos t r).1, (pos t r).2, gi, dr]
        simp only [cond_true, hear_a t (List.mem_cons_self), hearE]
        generalize hearT a t = r
        obtain ⟨s, o, q, e⟩ := r
        cases q <;> rfl
    by_cases h2 : f = 2
    · subst h2
      simp only [decide_eq_false h0, decide_true, cond_true, cond_false, if_true, if_neg h0, if_neg (show ¬ (2 : Int) = 1 by decide)]
      cases ta with
      | nil => rfl
      | cons t r =>
        rw [(pos t r).1, (pos t r).2, gi, dr]
        rfl
    by_cases h6 : f = 6
    · subst h6
      simp only [decide_eq_false h0, decide_eq_false h2, decide_true, cond_true, cond_false, if_true, if_neg h0, if_neg h2, if_neg (show ¬ (6 : Int) = 1 by decide), if_neg (show ¬ (6 : Int) = 3 by decide)]
      cases ta with
      | nil => rfl
      | cons t r =>
        rw [(pos t r).1, (pos t r).2, gi, dr]
        simp only [cond_true, hear_a t (List.mem_cons_self), hearE]
        generalize hearT a t = r
        obtain ⟨s, o, q, e⟩ := r
        cases q <;> rfl
    simp only [decide_eq_false h0, decide_eq_false h2, decide_eq_false h6, cond_false, if_neg h0, if_neg h2, if_neg h6]
    by_cases h1 : f = 1
    · subst h1
      simp only [decide_true, cond_true, if_true]
      cases tb with
      | nil => rfl
      | cons t r =>
        rw [(pos t r).1, (pos t r).2, gi, dr]
        simp only [cond_true, hear_b t (List.mem_cons_self), hearE, swapE]
        generalize hearT b t = r
        obtain ⟨s, o, q, e⟩ := r
        cases q <;> rfl
    by_cases h3 : f = 3
    · subst h3
      simp only [decide_eq_false h1, decide_true, cond_true, cond_false, if_true, if_neg h1]
      cases tb with
      | nil => rfl
      | cons t r =>
        rw [(pos t r).1, (pos t r).2, gi, dr]
        rfl
    by_cases h7 : f = 7
    · subst h7
      simp only [decide_eq_false h1, decide_eq_false h3, decide_true, cond_true, cond_false, if_true, if_neg h1, if_neg h3]
      cases tb with
      | nil => rfl
      | cons t r =>
        rw [(pos t r).1, (pos t r).2, gi, dr]
        simp only [cond_true, hear_b t (List.mem_cons_self), hearE, swapE]
        generalize hearT b t = r
        obtain ⟨s, o, q, e⟩ := r
        cases q <;> rfl
    simp only [decide_eq_false h1, decide_eq_false h3, decide_eq_false h7, cond_false, if_neg h1, if_neg h3, if_neg h7]

theorem alive_true : F8_crossroadslaw17_alive = some true := by decide

/-- A session as it is opened. -/
def opS (own peer seq : Int) (l : List THeader) : TSession := ⟨own, peer, 0, false, seq, l, [], ⟨1500, 2, true, true, true, seq, []⟩⟩
theorem open9 (own peer seq : Int) {l : List THeader} (h : l.length ≤ 120) : F9_exch_Open own peer seq l = some (opS own peer seq l, (opS own peer seq l).Last) := by
  unfold F9_exch_Open
  rw [decide_eq_true (show l.length < 1099511627776 by omega)]
  rfl
theorem op_bd (own peer seq own' peer' seq' : Int) {l l' : List THeader} (h : l.length ≤ 120) : EB 0 ⟨opS own peer seq l, [(opS own' peer' seq' l').Last]⟩ := by
  refine ⟨⟨h, by simp [opS], by simp [opS]⟩, fun d hd => ?_, by simp⟩
  rw [List.mem_singleton.1 hd]
  simp [opS]

theorem exchRun_true (a b : TStart) (l : List Int) (_ : a.ok) (_ : b.ok) (_ : ∀ y ∈ l, InK .i64 y) : F4_crossroadslaw17_ExchRun a b l = some true := by
  unfold F4_crossroadslaw17_ExchRun
  by_cases h1 : 120 < (a.Heads.length : Int)
  · rw [decide_eq_true h1]; exact alive_true
  by_cases h2 : 120 < (b.Heads.length : Int)
  · rw [decide_eq_false h1, decide_eq_true h2]; exact alive_true
  by_cases h3 : 120 < (l.length : Int)
  · rw [decide_eq_false h1, decide_eq_false h2, decide_eq_true h3]; exact alive_true
  rw [decide_eq_false h1, decide_eq_false h2, decide_eq_false h3, open9 _ _ _ (by omega), open9 _ _ _ (by omega)]
  simp only [cond_false]
  have r1 : F19_exch_Run (opS a.Own b.Own a.Seq a.Heads) (opS b.Own a.Own b.Seq b.Heads) l = some ((runE l ⟨opS a.Own b.Own a.Seq a.Heads, [(opS b.Own a.Own b.Seq b.Heads).Last]⟩ ⟨opS b.Own a.Own b.Seq b.Heads, [(opS a.Own b.Own a.Seq a.Heads).Last]⟩).1.s, (runE l ⟨opS a.Own b.Own a.Seq a.Heads, [(opS b.Own a.Own b.Seq b.Heads).Last]⟩ ⟨opS b.Own a.Own b.Seq b.Heads, [(opS a.Own b.Own a.Seq a.Heads).Last]⟩).2.s) := by
    unfold F19_exch_Run
    rw [run19 l 0 _ _ (op_bd _ _ _ _ _ _ (by omega)) (op_bd _ _ _ _ _ _ (by omega)) (by omega)]
  have r2 : F20_crossroadsref17_Run (opS a.Own b.Own a.Seq a.Heads) (opS b.Own a.Own b.Seq b.Heads) l = some ((runE l ⟨opS a.Own b.Own a.Seq a.Heads, [(opS b.Own a.Own b.Seq b.Heads).Last]⟩ ⟨opS b.Own a.Own b.Seq b.Heads, [(opS a.Own b.Own a.Seq a.Heads).Last]⟩).1.s, (runE l ⟨opS a.Own b.Own a.Seq a.Heads, [(opS b.Own a.Own b.Seq b.Heads).Last]⟩ ⟨opS b.Own a.Own b.Seq b.Heads, [(opS a.Own b.Own a.Seq a.Heads).Last]⟩).2.s) := by
    unfold F20_crossroadsref17_Run
    rw [run20 l 0 _ _ _ _ (op_bd _ _ _ _ _ _ (by omega)) (op_bd _ _ _ _ _ _ (by omega)) (by omega)]
    rfl
  rw [r1]
  have hp : ∀ s, F14_crossroadslaw17_plain s = s := fun s => rfl
  simp only [hp]
  rw [r2, alive_true]
  simp only [Sess_refl, cond_true]
end Go.Proofs.Ytbmdpedhobkeeaa.Abs
