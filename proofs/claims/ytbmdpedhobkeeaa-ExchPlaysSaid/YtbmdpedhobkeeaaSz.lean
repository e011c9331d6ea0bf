/- Sizes. -/
import Derived.Test.YtbmdpedhobkeeaaEn
import Derived.Test.YtbmdpedhobkeeaaS2
set_option linter.unusedVariables false
set_option linter.unusedSimpArgs false
namespace Go.Proofs.Ytbmdpedhobkeeaa.Abs
open Go

theorem post28a (t : TTalk) (d : TDesc) : (F28_exch_talk_hears t d).2.Session.Left.length = t.Session.Left.length := by
  unfold F28_exch_talk_hears
  cases decide (t.Session.Phase = 0) <;> cases d.Init <;> cases (d.Master == t.Session.Leads) <;> cases t.Session.Leads <;> rfl
theorem post28b (t : TTalk) (d : TDesc) : (F28_exch_talk_hears t d).2.Session.Got.length = t.Session.Got.length := by
  unfold F28_exch_talk_hears
  cases decide (t.Session.Phase = 0) <;> cases d.Init <;> cases (d.Master == t.Session.Leads) <;> cases t.Session.Leads <;> rfl
theorem post64a (t : TTalk) (d : TDesc) : (F64_exch_talk_take t d).Session.Left.length = t.Session.Left.length := rfl
theorem post48a (s : TSession) (d : TDesc) : (F48_crossroadsref17_got s d).Left.length = s.Left.length := rfl
theorem post14 (s : TSession) : F14_crossroadslaw17_plain s = s := rfl
theorem post12 (d : TDesc) : F12_crossroadslaw17_desc d = d := rfl
theorem post9a (a b c : Int) (h : List THeader) : (F9_exch_Open a b c h).1.Left.length = h.length := rfl
theorem post9b (a b c : Int) (h : List THeader) : (F9_exch_Open a b c h).1.Got.length = 0 := rfl
theorem post10a (a b c : Int) (h : List THeader) : (F10_crossroadsref17_Open a b c h).1.Left.length = h.length := rfl
theorem post10b (a b c : Int) (h : List THeader) : (F10_crossroadsref17_Open a b c h).1.Got.length = 0 := rfl

theorem page_le (t : TTalk) : (F63_exch_talk_page t).Session.Left.length ≤ t.Session.Left.length ∧ (F63_exch_talk_page t).Session.Got = t.Session.Got := by
  unfold F63_exch_talk_page F65_exch_talk_send
  exact ⟨by simp, rfl⟩
theorem rpage_le (s : TSession) : (F29_crossroadsref17_page s).1.Left.length ≤ s.Left.length ∧ (F29_crossroadsref17_page s).1.Got = s.Got := by
  unfold F29_crossroadsref17_page
  exact ⟨by simp, rfl⟩
/-- What a session has behind a description. -/
def Le (l g l' g' d : List THeader) : Prop := l'.length ≤ l.length ∧ g'.length ≤ g.length + d.length
theorem lead_le (t : TTalk) (d : TDesc) : Le t.Session.Left t.Session.Got (F46_exch_talk_lead t d).Session.Left (F46_exch_talk_lead t d).Session.Got d.Heads := by
  unfold F46_exch_talk_lead
  cases decide (d.Seq = IntKind.u32.wrap (t.Session.Seq - 1)) <;> simp only [cond_true, cond_false]
  · cases decide (d.Seq = t.Session.Seq) <;> simp only [cond_true, cond_false]
    · exact ⟨Nat.le_refl _, Nat.le_add_right _ _⟩
    · cases decide (t.Session.Phase = 2) <;> simp only [cond_true, cond_false]
      · unfold F64_exch_talk_take
        dsimp only
        cases t.Session.Last.More <;> cases d.More <;> simp only [cond_true, cond_false]
        · exact ⟨Nat.le_refl _, by simp⟩
        all_goals
          refine ⟨(page_le _).1, ?_⟩
          rw [(page_le _).2]
          simp
      · exact ⟨Nat.le_refl _, Nat.le_add_right _ _⟩
  · exact ⟨Nat.le_refl _, Nat.le_add_right _ _⟩
theorem follow_le (t : TTalk) (d : TDesc) : Le t.Session.Left t.Session.Got (F47_exch_talk_follow t d).Session.Left (F47_exch_talk_follow t d).Session.Got d.Heads := by
  unfold F47_exch_talk_follow
  cases decide (d.Seq = t.Session.Seq) <;> simp only [cond_true, cond_false]
  · cases decide (d.Seq = IntKind.u32.wrap (t.Session.Seq + 1)) <;> simp only [cond_true, cond_false]
    · exact ⟨Nat.le_refl _, Nat.le_add_right _ _⟩
    · cases decide (t.Session.Phase = 2) <;> simp only [cond_true, cond_false]
      · generalize hp : F63_exch_talk_page _ = q
        have h := page_le (⟨⟨(F64_exch_talk_take t d).Session.Own, (F64_exch_talk_take t d).Session.Peer, (F64_exch_talk_take t d).Session.Phase, (F64_exch_talk_take t d).Session.Leads, d.Seq, (F64_exch_talk_take t d).Session.Left, (F64_exch_talk_take t d).Session.Got, (F64_exch_talk_take t d).Session.Last⟩, (F64_exch_talk_take t d).out, (F64_exch_talk_take t d).sent, (F64_exch_talk_take t d).e⟩ : TTalk)
        rw [hp] at h
        unfold F64_exch_talk_take at h
        dsimp only at h ⊢
        have : Le t.Session.Left t.Session.Got q.Session.Left q.Session.Got d.Heads := ⟨h.1, by rw [h.2]; simp⟩
        cases d.More <;> cases q.out.More <;> exact this
      · exact ⟨Nat.le_refl _, Nat.le_add_right _ _⟩
  · exact ⟨Nat.le_refl _, Nat.le_add_right _ _⟩
theorem begin_le (t : TTalk) (d : TDesc) : Le t.Session.Left t.Session.Got (F44_exch_talk_begin t d).Session.Left (F44_exch_talk_begin t d).Session.Got d.Heads := by
  have h0 : Le t.Session.Left t.Session.Got t.Session.Left t.Session.Got d.Heads := ⟨Nat.le_refl _, Nat.le_add_right _ _⟩
  unfold F44_exch_talk_begin
  cases d.Init <;> simp only [cond_true, cond_false]
  · cases d.Master <;> simp only [cond_true, cond_false]
    · cases decide (d.Seq = t.Session.Seq) <;> simp only [cond_true, cond_false]
      · exact h0
      · cases decide (t.Session.Peer < t.Session.Own) <;> simp only [cond_true, cond_false]
        · exact h0
        · exact lead_le _ d
    · exact h0
  · cases d.More <;> simp only [cond_true, cond_false]
    · exact h0
    · cases d.Master <;> simp only [cond_true, cond_false]
      · exact h0
      · cases decide ((d.Heads.length : Int) = 0) <;> simp only [cond_true, cond_false]
        · exact h0
        · cases decide (t.Session.Own < t.Session.Peer) <;> simp only [cond_true, cond_false]
          · exact h0
          · exact ⟨(page_le _).1, by rw [(page_le _).2]; simp⟩
theorem hear_le (s : TSession) (d : TDesc) : Le s.Left s.Got (F15_exch_Hear s d).1.Left (F15_exch_Hear s d).1.Got d.Heads := by
  have h0 : Le s.Left s.Got s.Left s.Got d.Heads := ⟨Nat.le_refl _, Nat.le_add_right _ _⟩
  unfold F15_exch_Hear
  have h1 := post28a (⟨s, ⟨0, 0, false, false, false, 0, []⟩, false, 0⟩ : TTalk) d
  have h2 := post28b (⟨s, ⟨0, 0, false, false, false, 0, []⟩, false, 0⟩ : TTalk) d
  generalize F28_exch_talk_hears _ d = r at h1 h2
  obtain ⟨k, t⟩ := r
  dsimp only at h1 h2 ⊢
  have fin : ∀ u : TTalk, Le t.Session.Left t.Session.Got u.Session.Left u.Session.Got d.Heads → Le s.Left s.Got (bif decide (u.e = 0) then (u.Session, u.out, u.sent, (0 : Int)) else (s, (⟨0, 0, false, false, false, 0, ([] : List THeader)⟩ : TDesc), false, u.e)).1.Left
      (bif decide (u.e = 0) then (u.Session, u.out, u.sent, (0 : Int)) else (s, (⟨0, 0, false, false, false, 0, ([] : List THeader)⟩ : TDesc), false, u.e)).1.Got d.Heads := by
    intro u hu
    cases decide (u.e = 0)
    · exact h0
    · exact ⟨by have := hu.1; simp only [cond_true]; omega, by have := hu.2; simp only [cond_true]; omega⟩
  cases k
  · exact fin _ (follow_le t d)
  · exact fin _ (lead_le t d)
  · exact fin _ ⟨Nat.le_refl _, Nat.le_add_right _ _⟩
  · exact fin _ (begin_le t d)
theorem post15a (s : TSession) (d : TDesc) : (F15_exch_Hear s d).1.Left.length ≤ s.Left.length := (hear_le s d).1
theorem post15b (s : TSession) (d : TDesc) : (F15_exch_Hear s d).1.Got.length ≤ s.Got.length + d.Heads.length := (hear_le s d).2

abbrev LeS (s : TSession) (d : TDesc) (r : TSession × TDesc × Bool × Int) : Prop := Le s.Left s.Got r.1.Left r.1.Got d.Heads
theorem rlead_le (s : TSession) (d : TDesc) : LeS s d (F30_crossroadsref17_lead s d) := by
  have h0 : Le s.Left s.Got s.Left s.Got d.Heads := ⟨Nat.le_refl _, Nat.le_add_right _ _⟩
  unfold F30_crossroadsref17_lead
  cases decide (d.Seq = IntKind.u32.wrap (s.Seq - 1)) <;> simp only [cond_true, cond_false]
  · cases decide (d.Seq = s.Seq) <;> simp only [cond_true, cond_false]
    · exact h0
    · cases decide (s.Phase = 2) <;> simp only [cond_true, cond_false]
      · have hg : ∀ q : TSession, q.Left = s.Left → q.Got = s.Got ++ d.Heads → Le s.Left s.Got (F29_crossroadsref17_page q).1.Left (F29_crossroadsref17_page q).1.Got d.Heads := by
          intro q h1 h2
          have h := rpage_le q
          exact ⟨by rw [← h1]; exact h.1, by rw [h.2, h2]; simp⟩
        unfold F48_crossroadsref17_got
        dsimp only
        cases s.Last.More <;> cases d.More <;> simp only [cond_true, cond_false]
        · exact ⟨Nat.le_refl _, by simp⟩
        all_goals exact hg _ rfl rfl
      · exact h0
  · exact h0
theorem rfollow_le (s : TSession) (d : TDesc) : LeS s d (F31_crossroadsref17_follow s d) := by
  have h0 : Le s.Left s.Got s.Left s.Got d.Heads := ⟨Nat.le_refl _, Nat.le_add_right _ _⟩
  unfold F31_crossroadsref17_follow
  cases decide (d.Seq = s.Seq) <;> simp only [cond_true, cond_false]
  · cases decide (d.Seq = IntKind.u32.wrap (s.Seq + 1)) <;> simp only [cond_true, cond_false]
    · exact h0
    · cases decide (s.Phase = 2) <;> simp only [cond_true, cond_false]
      · unfold F48_crossroadsref17_got
        dsimp only
        generalize hp : F29_crossroadsref17_page _ = q
        have h := rpage_le (⟨s.Own, s.Peer, s.Phase, s.Leads, d.Seq, s.Left, s.Got ++ d.Heads, s.Last⟩ : TSession)
        rw [hp] at h
        obtain ⟨q1, q2⟩ := q
        dsimp only at h ⊢
        have : Le s.Left s.Got q1.Left q1.Got d.Heads := ⟨h.1, by rw [h.2]; simp⟩
        cases d.More <;> cases q2.More <;> exact this
      · exact h0
  · exact h0
theorem rhear_le (s : TSession) (d : TDesc) : LeS s d (F16_crossroadsref17_Hear s d) := by
  have h0 : Le s.Left s.Got s.Left s.Got d.Heads := ⟨Nat.le_refl _, Nat.le_add_right _ _⟩
  unfold F16_crossroadsref17_Hear
  cases decide (s.Phase = 0) <;> simp only [cond_true, cond_false]
  · cases d.Init <;> simp only [cond_true, cond_false]
    · cases (d.Master == s.Leads) <;> simp only [cond_true, cond_false]
      · cases s.Leads <;> simp only [cond_true, cond_false]
        · exact rfollow_le s d
        · exact rlead_le s d
      · exact h0
    · exact h0
  · cases d.Init <;> simp only [cond_true, cond_false]
    · cases d.Master <;> simp only [cond_true, cond_false]
      · cases decide (d.Seq = s.Seq) <;> simp only [cond_true, cond_false]
        · exact h0
        · cases decide (s.Peer < s.Own) <;> simp only [cond_true, cond_false]
          · exact h0
          · exact rlead_le (⟨s.Own, s.Peer, 1, true, s.Seq, s.Left, s.Got, s.Last⟩ : TSession) d
      · exact h0
    · cases d.More <;> simp only [cond_true, cond_false]
      · exact h0
      · cases d.Master <;> simp only [cond_true, cond_false]
        · exact h0
        · cases decide ((d.Heads.length : Int) = 0) <;> simp only [cond_true, cond_false]
          · exact h0
          · cases decide (s.Own < s.Peer) <;> simp only [cond_true, cond_false]
            · exact h0
            · have h := rpage_le (⟨s.Own, s.Peer, 1, s.Leads, d.Seq, s.Left, s.Got, s.Last⟩ : TSession)
              exact ⟨h.1, by have := h.2; dsimp only at this ⊢; rw [this]; simp⟩
theorem post16a (s : TSession) (d : TDesc) : (F16_crossroadsref17_Hear s d).1.Left.length ≤ s.Left.length := (rhear_le s d).1
theorem post16b (s : TSession) (d : TDesc) : (F16_crossroadsref17_Hear s d).1.Got.length ≤ s.Got.length + d.Heads.length := (rhear_le s d).2

/-! What is sent. -/
theorem page_out (t : TTalk) : (F63_exch_talk_page t).out.Heads.length ≤ t.Session.Left.length := by
  unfold F63_exch_talk_page F65_exch_talk_send
  simp only [List.length_take]
  exact Nat.min_le_right _ _
abbrev OutS (t u : TTalk) : Prop := u.out.Heads.length ≤ t.out.Heads.length + t.Session.Last.Heads.length + t.Session.Left.length
theorem lead_out (t : TTalk) (d : TDesc) : OutS t (F46_exch_talk_lead t d) := by
  have h0 : OutS t t := by show _ ≤ _; omega
  unfold F46_exch_talk_lead
  cases decide (d.Seq = IntKind.u32.wrap (t.Session.Seq - 1)) <;> simp only [cond_true, cond_false]
  · cases decide (d.Seq = t.Session.Seq) <;> simp only [cond_true, cond_false]
    · exact h0
    · cases decide (t.Session.Phase = 2) <;> simp only [cond_true, cond_false]
      · unfold F64_exch_talk_take
        dsimp only
        cases t.Session.Last.More <;> cases d.More <;> simp only [cond_true, cond_false]
        · exact h0
        all_goals exact Nat.le_trans (page_out _) (Nat.le_add_left _ _)
      · exact h0
  · exact h0
theorem follow_out (t : TTalk) (d : TDesc) : OutS t (F47_exch_talk_follow t d) := by
  have h0 : OutS t t := by show _ ≤ _; omega
  unfold F47_exch_talk_follow
  cases decide (d.Seq = t.Session.Seq) <;> simp only [cond_true, cond_false]
  · cases decide (d.Seq = IntKind.u32.wrap (t.Session.Seq + 1)) <;> simp only [cond_true, cond_false]
    · exact h0
    · cases decide (t.Session.Phase = 2) <;> simp only [cond_true, cond_false]
      · unfold F64_exch_talk_take
        dsimp only
        generalize hp : F63_exch_talk_page _ = q
        have h := page_out (⟨⟨t.Session.Own, t.Session.Peer, t.Session.Phase, t.Session.Leads, d.Seq, t.Session.Left, t.Session.Got ++ d.Heads, t.Session.Last⟩, t.out, t.sent, t.e⟩ : TTalk)
        rw [hp] at h
        have : OutS t q := Nat.le_trans h (Nat.le_add_left _ _)
        cases d.More <;> cases q.out.More <;> exact this
      · exact h0
  · unfold F65_exch_talk_send
    show _ ≤ _
    dsimp only
    omega
theorem begin_out (t : TTalk) (d : TDesc) : OutS t (F44_exch_talk_begin t d) := by
  have h0 : OutS t t := by show _ ≤ _; omega
  unfold F44_exch_talk_begin
  cases d.Init <;> simp only [cond_true, cond_false]
  · cases d.Master <;> simp only [cond_true, cond_false]
    · cases decide (d.Seq = t.Session.Seq) <;> simp only [cond_true, cond_false]
      · exact h0
      · cases decide (t.Session.Peer < t.Session.Own) <;> simp only [cond_true, cond_false]
        · exact h0
        · exact lead_out _ d
    · exact h0
  · cases d.More <;> simp only [cond_true, cond_false]
    · exact h0
    · cases d.Master <;> simp only [cond_true, cond_false]
      · exact h0
      · cases decide ((d.Heads.length : Int) = 0) <;> simp only [cond_true, cond_false]
        · exact h0
        · cases decide (t.Session.Own < t.Session.Peer) <;> simp only [cond_true, cond_false]
          · exact h0
          · exact Nat.le_trans (page_out _) (Nat.le_add_left _ _)
theorem hears_same (t : TTalk) (d : TDesc) : (F28_exch_talk_hears t d).2 = t := by
  unfold F28_exch_talk_hears
  cases decide (t.Session.Phase = 0) <;> cases d.Init <;> cases (d.Master == t.Session.Leads) <;> cases t.Session.Leads <;> rfl
theorem post15c (s : TSession) (d : TDesc) : (F15_exch_Hear s d).2.1.Heads.length ≤ s.Last.Heads.length + s.Left.length := by
  unfold F15_exch_Hear
  have h1 := hears_same (⟨s, ⟨0, 0, false, false, false, 0, []⟩, false, 0⟩ : TTalk) d
  generalize F28_exch_talk_hears _ d = r at h1
  obtain ⟨k, t⟩ := r
  dsimp only at h1 ⊢
  subst h1
  have fin : ∀ u : TTalk, u.out.Heads.length ≤ s.Last.Heads.length + s.Left.length → (bif decide (u.e = 0) then (u.Session, u.out, u.sent, (0 : Int)) else (s, (⟨0, 0, false, false, false, 0, ([] : List THeader)⟩ : TDesc), false, u.e)).2.1.Heads.length ≤ s.Last.Heads.length + s.Left.length := by
    intro u hu
    cases decide (u.e = 0)
    · exact Nat.zero_le _
    · exact hu
  cases k
  · exact fin _ (by have := follow_out (⟨s, ⟨0, 0, false, false, false, 0, []⟩, false, 0⟩ : TTalk) d; simpa [OutS] using this)
  · exact fin _ (by have := lead_out (⟨s, ⟨0, 0, false, false, false, 0, []⟩, false, 0⟩ : TTalk) d; simpa [OutS] using this)
  · exact fin _ (Nat.zero_le _)
  · exact fin _ (by have := begin_out (⟨s, ⟨0, 0, false, false, false, 0, []⟩, false, 0⟩ : TTalk) d; simpa [OutS] using this)
theorem post9c (a b c : Int) (h : List THeader) : (F9_exch_Open a b c h).1.Last.Heads.length = 0 := rfl
theorem post9d (a b c : Int) (h : List THeader) : (F9_exch_Open a b c h).2.Heads.length = 0 := rfl
theorem post12b (d : TDesc) : (F12_crossroadslaw17_desc d).Heads.length = d.Heads.length := rfl
end Go.Proofs.Ytbmdpedhobkeeaa.Abs
