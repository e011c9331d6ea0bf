/- Two sessions run by fates: what a session hears, without guards; a run's step; ExchRun. -/
import Derived.Test.YtbmdpedhobkeeaaTy
import Derived.Test.YtbmdpedhobkeeaaSq
set_option linter.unusedVariables false
set_option linter.unusedSimpArgs false
set_option maxRecDepth 10000
namespace Go.Proofs.Ytbmdpedhobkeeaa.Abs
open Go

theorem heads_refl (b : List THeader) : ∀ (l : List THeader) (i : Nat), l = b.drop i → F21_crossroadsref13_Heads_l1 b i l = .ok ()
  | [], i, _ => rfl
  | x :: l, i, h => by
    have hx : b[i]? = some x := by
      have : (b.drop i)[0]? = some x := by rw [← h]; rfl
      simpa using this
    have hl : l = b.drop (i + 1) := by
      have : (b.drop i).drop 1 = l := by rw [← h]; rfl
      rw [List.drop_drop] at this
      rw [← this]
    have hg : b.getD i default = x := by rw [List.getD_eq_getElem?_getD, hx]; rfl
    rw [F21_crossroadsref13_Heads_l1, hg]
    simp only [decide_true, Bool.and_self, cond_true]
    exact heads_refl b l (i + 1) hl
theorem Heads_refl (b : List THeader) : F21_crossroadsref13_Heads b b = true := by
  unfold F21_crossroadsref13_Heads
  rw [heads_refl b b 0 rfl]
  simp
theorem Desc_refl (d : TDesc) : F11_crossroadsref13_Same d d = true := by
  unfold F11_crossroadsref13_Same
  simp [Heads_refl]
theorem Sess_refl (s : TSession) : F13_crossroadsref17_Same s s = true := by
  unfold F13_crossroadsref17_Same
  simp [Heads_refl, Desc_refl]

/-- No description. -/
def dNo : TDesc := ⟨0, 0, false, false, false, 0, []⟩
/-- The next page. -/
def pgD (s : TSession) : TDesc := ⟨1500, 2, false, decide (10 < s.Left.length), s.Leads, s.Seq, s.Left.take 10⟩
def pgS (s : TSession) : TSession := ⟨s.Own, s.Peer, s.Phase, s.Leads, s.Seq, s.Left.drop 10, s.Got, pgD s⟩
def gotS (s : TSession) (d : TDesc) (q : Int) : TSession := ⟨s.Own, s.Peer, s.Phase, s.Leads, q, s.Left, s.Got ++ d.Heads, s.Last⟩
def phS (s : TSession) (p : Int) : TSession := ⟨s.Own, s.Peer, p, s.Leads, s.Seq, s.Left, s.Got, s.Last⟩

def leadT (s : TSession) (d : TDesc) : TSession × TDesc × Bool × Int :=
  if d.Seq = IntKind.u32.wrap (s.Seq - 1) then (s, dNo, false, 0)
  else if d.Seq = s.Seq then
    if s.Phase = 2 then (s, dNo, false, 0)
    else if s.Last.More = false ∧ d.More = false then (phS (gotS s d s.Seq) 2, dNo, false, 0)
    else (pgS (gotS s d (IntKind.u32.wrap (s.Seq + 1))), pgD (gotS s d (IntKind.u32.wrap (s.Seq + 1))), true, 0)
  else (s, dNo, false, 13)
def followT (s : TSession) (d : TDesc) : TSession × TDesc × Bool × Int :=
  if d.Seq = s.Seq then (s, s.Last, true, 0)
  else if d.Seq = IntKind.u32.wrap (s.Seq + 1) then
    if s.Phase = 2 then (s, dNo, false, 13)
    else if d.More = false ∧ (pgD (gotS s d d.Seq)).More = false then (phS (pgS (gotS s d d.Seq)) 2, pgD (gotS s d d.Seq), true, 0)
    else (pgS (gotS s d d.Seq), pgD (gotS s d d.Seq), true, 0)
  else (s, dNo, false, 13)
def hearT (s : TSession) (d : TDesc) : TSession × TDesc × Bool × Int :=
  if s.Phase = 0 then
    if d.Init = true then
      if d.More = true ∧ d.Master = true ∧ d.Heads = [] ∧ s.Own < s.Peer then
        (pgS ⟨s.Own, s.Peer, 1, s.Leads, d.Seq, s.Left, s.Got, s.Last⟩, pgD ⟨s.Own, s.Peer, 1, s.Leads, d.Seq, s.Left, s.Got, s.Last⟩, true, 0)
      else (s, dNo, false, 0)
    else if d.Master = false ∧ d.Seq = s.Seq ∧ s.Peer < s.Own then leadT ⟨s.Own, s.Peer, 1, true, s.Seq, s.Left, s.Got, s.Last⟩ d
    else (s, dNo, false, 0)
  else if d.Init = true then (s, dNo, false, 13)
  else if d.Master = s.Leads then (s, dNo, false, 13)
  else if s.Leads = true then leadT s d
  else followT s d

theorem min10 (n : Nat) : min_ 10 (n : Int) = ((min 10 n : Nat) : Int) := by
  unfold min_
  split <;> omega
theorem take10 {α : Type} (l : List α) : l.take (min_ 10 (l.length : Int)).toNat = l.take 10 := by
  rw [min10, Int.toNat_natCast]
  by_cases h : 10 ≤ l.length
  · rw [Nat.min_eq_left h]
  · rw [Nat.min_eq_right (by omega), List.take_of_length_le (Nat.le_refl _), List.take_of_length_le (by omega)]
theorem drop10 {α : Type} (l : List α) : l.drop (min_ 10 (l.length : Int)).toNat = l.drop 10 := by
  rw [min10, Int.toNat_natCast]
  by_cases h : 10 ≤ l.length
  · rw [Nat.min_eq_left h]
  · rw [Nat.min_eq_right (by omega), List.drop_of_length_le (Nat.le_refl _), List.drop_of_length_le (by omega)]
theorem more10 {α : Type} (l : List α) : decide (min_ 10 (l.length : Int) < (l.length : Int)) = decide (10 < l.length) := by
  rw [min10]
  by_cases h : 10 < l.length
  · rw [decide_eq_true h, decide_eq_true (by omega)]
  · rw [decide_eq_false h, decide_eq_false (by omega)]

def SB (s : TSession) : Prop := s.Left.length < 1099511627776 ∧ s.Got.length < 1099511627776

theorem guards (l : List THeader) (h : l.length < 1099511627776) : decide ((0 : Int) ≤ min_ 10 (l.length : Int)) = true ∧ decide (min_ 10 (l.length : Int) ≤ (l.length : Int)) = true ∧ decide ((l.take 10).length < 1099511627776) = true ∧ decide ((l.drop 10).length < 1099511627776) = true := by
  rw [min10]
  refine ⟨?_, ?_, ?_, ?_⟩ <;> simp only [decide_eq_true_eq, List.length_take, List.length_drop] <;> omega

theorem page63 (s : TSession) (o : TDesc) (b : Bool) (e : Int) (h : s.Left.length < 1099511627776) : F63_exch_talk_page ⟨s, o, b, e⟩ = some ⟨pgS s, pgD s, true, e⟩ := by
  unfold F63_exch_talk_page F65_exch_talk_send
  obtain ⟨g1, g2, g3, g4⟩ := guards s.Left h
  simp only [take10, drop10, more10, g1, g2, g3, g4, cond_true]
  rfl
theorem page29 (s : TSession) (h : s.Left.length < 1099511627776) : F29_crossroadsref17_page s = some (pgS s, pgD s) := by
  unfold F29_crossroadsref17_page
  obtain ⟨g1, g2, g3, g4⟩ := guards s.Left h
  simp only [take10, drop10, more10, g1, g2, g3, g4, cond_true]
  rfl
theorem take64 (s : TSession) (o : TDesc) (b : Bool) (e : Int) (d : TDesc) (h : s.Got.length < 1099511627776) (hd : d.Heads.length < 1099511627776) : F64_exch_talk_take ⟨s, o, b, e⟩ d = some ⟨gotS s d s.Seq, o, b, e⟩ := by
  unfold F64_exch_talk_take
  simp only [decide_eq_true h, decide_eq_true hd, cond_true]
  rfl
theorem got48 (s : TSession) (d : TDesc) (h : s.Got.length < 1099511627776) (hd : d.Heads.length < 1099511627776) : F48_crossroadsref17_got s d = some (gotS s d s.Seq) := by
  unfold F48_crossroadsref17_got
  simp only [decide_eq_true h, decide_eq_true hd, cond_true]
  rfl

/-- What the program's session makes of a talk. -/
def talkR (s : TSession) (u : TTalk) : TSession × TDesc × Bool × Int := bif decide (u.e = 0) then (u.Session, u.out, u.sent, 0) else (s, dNo, false, u.e)

theorem lead46 (s : TSession) (d : TDesc) (h : SB s) (hd : d.Heads.length < 1099511627776) : ∃ u, F46_exch_talk_lead ⟨s, dNo, false, 0⟩ d = some u ∧ ((u.e = 0 ∧ ∀ s0, talkR s0 u = leadT s d) ∨ (u.e = 13 ∧ leadT s d = (s, dNo, false, 13) ∧ d.Seq ≠ s.Seq)) := by
  unfold F46_exch_talk_lead leadT
  by_cases h1 : d.Seq = IntKind.u32.wrap (s.Seq - 1)
  · simp only [decide_eq_true h1, if_pos h1, cond_true]
    exact ⟨_, rfl, .inl ⟨rfl, fun _ => rfl⟩⟩
  · simp only [decide_eq_false h1, if_neg h1, cond_false]
    by_cases h2 : d.Seq = s.Seq
    · simp only [decide_eq_true h2, if_pos h2, cond_true]
      by_cases h3 : s.Phase = 2
      · simp only [decide_eq_true h3, if_pos h3, cond_true]
        exact ⟨_, rfl, .inl ⟨rfl, fun _ => rfl⟩⟩
      · simp only [decide_eq_false h3, if_neg h3, cond_false]
        rw [take64 s dNo false 0 d h.2 hd]
        dsimp only
        have hl : (gotS s d s.Seq).Last = s.Last := rfl
        have hp : F63_exch_talk_page ⟨gotS s d (IntKind.u32.wrap (s.Seq + 1)), dNo, false, 0⟩ = _ := page63 _ _ _ _ h.1
        have hp' : F63_exch_talk_page (⟨(⟨(gotS s d s.Seq).Own, (gotS s d s.Seq).Peer, (gotS s d s.Seq).Phase, (gotS s d s.Seq).Leads, IntKind.u32.wrap ((gotS s d s.Seq).Seq + 1), (gotS s d s.Seq).Left, (gotS s d s.Seq).Got, s.Last⟩ : TSession), dNo, false, 0⟩ : TTalk) = _ := hp
        rw [hl]
        cases hm : s.Last.More <;> cases hn : d.More <;> simp only [cond_true, cond_false, hp']
        · rw [if_pos ⟨trivial, trivial⟩]
          exact ⟨_, rfl, .inl ⟨rfl, fun _ => rfl⟩⟩
        all_goals
          rw [if_neg (by simp)]
          exact ⟨_, rfl, .inl ⟨rfl, fun _ => rfl⟩⟩
    · simp only [decide_eq_false h2, if_neg h2, cond_false]
      exact ⟨_, rfl, .inr ⟨rfl, by first | rfl | trivial, h2⟩⟩

theorem follow47 (s : TSession) (d : TDesc) (h : SB s) (hd : d.Heads.length < 1099511627776) : ∃ u, F47_exch_talk_follow ⟨s, dNo, false, 0⟩ d = some u ∧ talkR s u = followT s d := by
  unfold F47_exch_talk_follow followT
  by_cases h1 : d.Seq = s.Seq
  · simp only [decide_eq_true h1, if_pos h1, cond_true]
    exact ⟨_, rfl, rfl⟩
  · simp only [decide_eq_false h1, if_neg h1, cond_false]
    by_cases h2 : d.Seq = IntKind.u32.wrap (s.Seq + 1)
    · simp only [decide_eq_true h2, if_pos h2, cond_true]
      by_cases h3 : s.Phase = 2
      · simp only [decide_eq_true h3, if_pos h3, cond_true]
        exact ⟨_, rfl, rfl⟩
      · simp only [decide_eq_false h3, if_neg h3, cond_false]
        rw [take64 s dNo false 0 d h.2 hd]
        dsimp only
        have hp : F63_exch_talk_page ⟨gotS s d d.Seq, dNo, false, 0⟩ = _ := page63 _ _ _ _ h.1
        have hp' : F63_exch_talk_page (⟨(⟨(gotS s d s.Seq).Own, (gotS s d s.Seq).Peer, (gotS s d s.Seq).Phase, (gotS s d s.Seq).Leads, d.Seq, (gotS s d s.Seq).Left, (gotS s d s.Seq).Got, (gotS s d s.Seq).Last⟩ : TSession), dNo, false, 0⟩ : TTalk) = _ := hp
        rw [hp']
        dsimp only
        cases hm : d.More <;> simp only [cond_true, cond_false]
        · cases hn : (pgD (gotS s d d.Seq)).More <;> simp only [cond_true, cond_false]
          · rw [if_pos ⟨trivial, trivial⟩]
            exact ⟨_, rfl, rfl⟩
          · rw [if_neg (by simp)]
            exact ⟨_, rfl, rfl⟩
        · rw [if_neg (by simp)]
          exact ⟨_, rfl, rfl⟩
    · simp only [decide_eq_false h2, if_neg h2, cond_false]
      exact ⟨_, rfl, rfl⟩

theorem talk_out (s : TSession) (u : TTalk) : (bif decide (u.e = 0) then some (u.Session, u.out, u.sent, (0 : Int)) else some (s, (⟨0, 0, false, false, false, 0, ([] : List THeader)⟩ : TDesc), false, u.e)) = some (talkR s u) := by
  unfold talkR
  cases decide (u.e = 0) <;> rfl

theorem hear15 (s : TSession) (d : TDesc) (h : SB s) (hd : d.Heads.length < 1099511627776) : F15_exch_Hear s d = some (hearT s d) := by
  unfold F15_exch_Hear F28_exch_talk_hears hearT
  dsimp only
  have hdn : (⟨0, 0, false, false, false, 0, ([] : List THeader)⟩ : TDesc) = dNo := rfl
  by_cases h0 : s.Phase = 0
  · simp only [decide_eq_true h0, if_pos h0, cond_true]
    unfold F44_exch_talk_begin
    cases hi : d.Init <;> simp only [cond_true, cond_false, Bool.false_eq_true, if_false, if_true]
    · cases hm : d.Master <;> simp only [cond_true, cond_false, Bool.false_eq_true, false_and, true_and, if_false]
      · by_cases h1 : d.Seq = s.Seq
        · simp only [decide_eq_true h1, cond_true]
          by_cases h2 : s.Peer < s.Own
          · simp only [decide_eq_true h2, cond_true]
            rw [if_pos ⟨h1, h2⟩]
            obtain ⟨u, hu, hu0⟩ := lead46 (⟨s.Own, s.Peer, 1, true, s.Seq, s.Left, s.Got, s.Last⟩ : TSession) d h hd
            rw [hdn, hu]
            dsimp only
            rw [← hdn, talk_out]
            rcases hu0 with ⟨_, hu0⟩ | ⟨_, _, hu0⟩
            · rw [hu0]
            · exact absurd h1 hu0
          · simp only [decide_eq_false h2, cond_false]
            rw [if_neg (by simp [h2])]
            rfl
        · simp only [decide_eq_false h1, cond_false]
          rw [if_neg (by simp [h1])]
          rfl
      · rw [if_neg (by simp)]
        rfl
    · cases hm : d.More <;> simp only [cond_true, cond_false, Bool.false_eq_true, false_and, true_and, if_false]
      · rfl
      · cases hk : d.Master <;> simp only [cond_true, cond_false, Bool.false_eq_true, false_and, true_and, if_false]
        · rfl
        · by_cases h1 : d.Heads = []
          · simp only [h1, List.length_nil, Int.natCast_zero, decide_true, cond_true, true_and]
            by_cases h2 : s.Own < s.Peer
            · simp only [decide_eq_true h2, if_pos h2, cond_true]
              rw [page63 (⟨s.Own, s.Peer, 1, s.Leads, d.Seq, s.Left, s.Got, s.Last⟩ : TSession) _ _ _ h.1]
              rfl
            · simp only [decide_eq_false h2, if_neg h2, cond_false]
              rfl
          · have : ¬ ((d.Heads.length : Int) = 0) := by
              intro hh
              exact h1 (List.eq_nil_of_length_eq_zero (by omega))
            simp only [decide_eq_false this, h1, cond_false, false_and, if_false]
            rfl
  · simp only [decide_eq_false h0, if_neg h0, cond_false]
    cases hi : d.Init <;> simp only [cond_true, cond_false, Bool.false_eq_true, if_false, if_true]
    · cases hq : (d.Master == s.Leads) <;> simp only [cond_true, cond_false]
      · rw [if_neg (by simpa using hq)]
        cases hl : s.Leads <;> simp only [cond_true, cond_false, Bool.false_eq_true, if_false, if_true]
        · obtain ⟨u, hu, hu0⟩ := follow47 s d h hd
          rw [hdn, hu]
          dsimp only
          rw [← hdn, talk_out, hu0]
        · obtain ⟨u, hu, hu0⟩ := lead46 s d h hd
          rw [hdn, hu]
          dsimp only
          rw [← hdn, talk_out]
          rcases hu0 with ⟨_, hu0⟩ | ⟨q2, q1, _⟩
          · rw [hu0]
          · rw [q1]
            unfold talkR
            rw [decide_eq_false (by rw [q2]; decide), q2]
            rfl
      · rw [if_pos (by simpa using hq)]
        rfl
    · rfl

theorem lead30 (s : TSession) (d : TDesc) (h : SB s) (hd : d.Heads.length < 1099511627776) : F30_crossroadsref17_lead s d = some (leadT s d) := by
  unfold F30_crossroadsref17_lead leadT
  by_cases h1 : d.Seq = IntKind.u32.wrap (s.Seq - 1)
  · simp only [decide_eq_true h1, if_pos h1, cond_true]
    rfl
  · simp only [decide_eq_false h1, if_neg h1, cond_false]
    by_cases h2 : d.Seq = s.Seq
    · simp only [decide_eq_true h2, if_pos h2, cond_true]
      by_cases h3 : s.Phase = 2
      · simp only [decide_eq_true h3, if_pos h3, cond_true]
        rfl
      · simp only [decide_eq_false h3, if_neg h3, cond_false]
        rw [got48 s d h.2 hd]
        dsimp only
        have hl : (gotS s d s.Seq).Last = s.Last := rfl
        have hp : F29_crossroadsref17_page (gotS s d (IntKind.u32.wrap (s.Seq + 1))) = _ := page29 _ h.1
        have hp' : F29_crossroadsref17_page ((⟨(gotS s d s.Seq).Own, (gotS s d s.Seq).Peer, (gotS s d s.Seq).Phase, (gotS s d s.Seq).Leads, IntKind.u32.wrap ((gotS s d s.Seq).Seq + 1), (gotS s d s.Seq).Left, (gotS s d s.Seq).Got, s.Last⟩ : TSession)) = _ := hp
        rw [hl]
        cases hm : s.Last.More <;> cases hn : d.More <;> simp only [cond_true, cond_false, hp']
        · rw [if_pos ⟨trivial, trivial⟩]
          rfl
        all_goals
          rw [if_neg (by simp)]
    · simp only [decide_eq_false h2, if_neg h2, cond_false]
      rfl
theorem follow31 (s : TSession) (d : TDesc) (h : SB s) (hd : d.Heads.length < 1099511627776) : F31_crossroadsref17_follow s d = some (followT s d) := by
  unfold F31_crossroadsref17_follow followT
  by_cases h1 : d.Seq = s.Seq
  · simp only [decide_eq_true h1, if_pos h1, cond_true]
  · simp only [decide_eq_false h1, if_neg h1, cond_false]
    by_cases h2 : d.Seq = IntKind.u32.wrap (s.Seq + 1)
    · simp only [decide_eq_true h2, if_pos h2, cond_true]
      by_cases h3 : s.Phase = 2
      · simp only [decide_eq_true h3, if_pos h3, cond_true]
        rfl
      · simp only [decide_eq_false h3, if_neg h3, cond_false]
        rw [got48 s d h.2 hd]
        dsimp only
        have hp : F29_crossroadsref17_page (gotS s d d.Seq) = _ := page29 _ h.1
        have hp' : F29_crossroadsref17_page ((⟨(gotS s d s.Seq).Own, (gotS s d s.Seq).Peer, (gotS s d s.Seq).Phase, (gotS s d s.Seq).Leads, d.Seq, (gotS s d s.Seq).Left, (gotS s d s.Seq).Got, (gotS s d s.Seq).Last⟩ : TSession)) = _ := hp
        rw [hp']
        dsimp only
        cases hm : d.More <;> simp only [cond_true, cond_false]
        · cases hn : (pgD (gotS s d d.Seq)).More <;> simp only [cond_true, cond_false]
          · rw [if_pos ⟨trivial, trivial⟩]
            rfl
          · rw [if_neg (by simp)]
        · rw [if_neg (by simp)]
    · simp only [decide_eq_false h2, if_neg h2, cond_false]
      rfl
theorem hear16 (s : TSession) (d : TDesc) (h : SB s) (hd : d.Heads.length < 1099511627776) : F16_crossroadsref17_Hear s d = some (hearT s d) := by
  unfold F16_crossroadsref17_Hear hearT
  by_cases h0 : s.Phase = 0
  · simp only [decide_eq_true h0, if_pos h0, cond_true]
    cases hi : d.Init <;> simp only [cond_true, cond_false, Bool.false_eq_true, if_false, if_true]
    · cases hm : d.Master <;> simp only [cond_true, cond_false, Bool.false_eq_true, false_and, true_and, if_false]
      · by_cases h1 : d.Seq = s.Seq
        · simp only [decide_eq_true h1, cond_true]
          by_cases h2 : s.Peer < s.Own
          · simp only [decide_eq_true h2, cond_true]
            rw [if_pos ⟨h1, h2⟩]
            exact lead30 _ d h hd
          · simp only [decide_eq_false h2, cond_false]
            rw [if_neg (by simp [h2])]
            rfl
        · simp only [decide_eq_false h1, cond_false]
          rw [if_neg (by simp [h1])]
          rfl
      · rw [if_neg (by simp)]
        rfl
    · cases hm : d.More <;> simp only [cond_true, cond_false, Bool.false_eq_true, false_and, true_and, if_false]
      · rfl
      · cases hk : d.Master <;> simp only [cond_true, cond_false, Bool.false_eq_true, false_and, true_and, if_false]
        · rfl
        · by_cases h1 : d.Heads = []
          · simp only [h1, List.length_nil, Int.natCast_zero, decide_true, cond_true, true_and]
            by_cases h2 : s.Own < s.Peer
            · simp only [decide_eq_true h2, if_pos h2, cond_true]
              rw [page29 (⟨s.Own, s.Peer, 1, s.Leads, d.Seq, s.Left, s.Got, s.Last⟩ : TSession) h.1]
            · simp only [decide_eq_false h2, if_neg h2, cond_false]
              rfl
          · have : ¬ ((d.Heads.length : Int) = 0) := by
              intro hh
              exact h1 (List.eq_nil_of_length_eq_zero (by omega))
            simp only [decide_eq_false this, h1, cond_false, false_and, if_false]
            rfl
  · simp only [decide_eq_false h0, if_neg h0, cond_false]
    cases hi : d.Init <;> simp only [cond_true, cond_false, Bool.false_eq_true, if_false, if_true]
    · cases hq : (d.Master == s.Leads) <;> simp only [cond_true, cond_false]
      · rw [if_neg (by simpa using hq)]
        cases hl : s.Leads <;> simp only [cond_true, cond_false, Bool.false_eq_true, if_false, if_true]
        · exact follow31 s d h hd
        · exact lead30 s d h hd
      · rw [if_pos (by simpa using hq)]
        rfl
    · rfl
end Go.Proofs.Ytbmdpedhobkeeaa.Abs
