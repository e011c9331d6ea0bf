/- What a session hears is as the document says. -/
import Derived.Test.YtbmdpedhobkeeaaTy
set_option linter.unusedVariables false
set_option linter.unusedSimpArgs false
namespace Go.Proofs.Ytbmdpedhobkeeaa.Abs
open Go

theorem heads_refl (b : List THeader) : ∀ (l : List THeader) (i : Nat), l = b.drop i → F21_crossroadsref13_Heads_l1 b i l = .ok ()
  | [], i, _ => rfl
  | x :: l, i, h => by
    have hx : b[i]? = some x := by
      have : (b.drop i)[0]? = some x := by rw [← h]; rfl
      simpa using this
    have hl : l = b.drop (i + 1) := by
      have : (b.drop i).drop 1 = l := by rw [← h]; rfl
      rw [List.drop_drop] at this
      rw [← this]
    have hg : b.getD i default = x := by rw [List.getD_eq_getElem?_getD, hx]; rfl
    rw [F21_crossroadsref13_Heads_l1, hg]
    simp only [decide_true, Bool.and_self, cond_true]
    exact heads_refl b l (i + 1) hl
theorem Heads_refl (b : List THeader) : F21_crossroadsref13_Heads b b = true := by
  unfold F21_crossroadsref13_Heads
  rw [heads_refl b b 0 rfl]
  simp
theorem Desc_refl (d : TDesc) : F11_crossroadsref13_Same d d = true := by
  unfold F11_crossroadsref13_Same
  simp [Heads_refl]
theorem Sess_refl (s : TSession) : F13_crossroadsref17_Same s s = true := by
  unfold F13_crossroadsref17_Same
  simp [Heads_refl, Desc_refl]

theorem lead_eq (s : TSession) (d : TDesc) : (fun u : TTalk => (bif decide (u.e = 0) then (u.Session, u.out, u.sent, (0 : Int)) else (s, (⟨0, 0, false, false, false, 0, ([] : List THeader)⟩ : TDesc), false, u.e))) (F46_exch_talk_lead ⟨s, ⟨0, 0, false, false, false, 0, []⟩, false, 0⟩ d) = F30_crossroadsref17_lead s d := by
  unfold F46_exch_talk_lead F30_crossroadsref17_lead F64_exch_talk_take F48_crossroadsref17_got F63_exch_talk_page F65_exch_talk_send F29_crossroadsref17_page
  dsimp only
  cases decide (d.Seq = IntKind.u32.wrap (s.Seq - 1)) <;> cases decide (d.Seq = s.Seq) <;> cases decide (s.Phase = 2) <;> cases s.Last.More <;> cases d.More <;> rfl
theorem follow_eq (s : TSession) (d : TDesc) : (fun u : TTalk => (bif decide (u.e = 0) then (u.Session, u.out, u.sent, (0 : Int)) else (s, (⟨0, 0, false, false, false, 0, ([] : List THeader)⟩ : TDesc), false, u.e))) (F47_exch_talk_follow ⟨s, ⟨0, 0, false, false, false, 0, []⟩, false, 0⟩ d) = F31_crossroadsref17_follow s d := by
  unfold F47_exch_talk_follow F31_crossroadsref17_follow F64_exch_talk_take F48_crossroadsref17_got F63_exch_talk_page F65_exch_talk_send F29_crossroadsref17_page
  dsimp only
  cases decide (d.Seq = s.Seq) <;> cases decide (d.Seq = IntKind.u32.wrap (s.Seq + 1)) <;> cases decide (s.Phase = 2) <;> cases d.More <;> cases decide (min_ 10 (s.Left.length : Int) < (s.Left.length : Int)) <;> rfl

theorem hear_eq (s : TSession) (d : TDesc) : F15_exch_Hear s d = F16_crossroadsref17_Hear s d := by
  unfold F15_exch_Hear F16_crossroadsref17_Hear F28_exch_talk_hears
  have hl := lead_eq s d
  have hl1 := lead_eq (⟨s.Own, s.Peer, 1, true, s.Seq, s.Left, s.Got, s.Last⟩ : TSession) d
  have hf := follow_eq s d
  dsimp only at hl hl1 hf ⊢
  cases decide (s.Phase = 0) <;> simp only [cond_true, cond_false]
  · cases d.Init <;> simp only [cond_true, cond_false]
    · cases (d.Master == s.Leads) <;> simp only [cond_true, cond_false]
      · cases s.Leads <;> simp only [cond_true, cond_false]
        · exact hf
        · exact hl
      · rfl
    · rfl
  · unfold F44_exch_talk_begin
    cases d.Init <;> simp only [cond_true, cond_false]
    · cases d.Master <;> simp only [cond_true, cond_false]
      · rcases bool_two (decide (d.Seq = s.Seq)) with hq | hq <;> simp only [hq, cond_true, cond_false]
        · rfl
        · rcases bool_two (decide (s.Peer < s.Own)) with hr | hr <;> simp only [hr, cond_true, cond_false]
          · rfl
          · rw [← hl1]
            unfold F46_exch_talk_lead F64_exch_talk_take F63_exch_talk_page F65_exch_talk_send
            dsimp only
            simp only [hq, cond_true, cond_false]
            cases decide (d.Seq = IntKind.u32.wrap (s.Seq - 1)) <;> cases s.Last.More <;> cases d.More <;> first | rfl | skip
      · rfl
    · cases d.More <;> simp only [cond_true, cond_false]
      · rfl
      · cases d.Master <;> simp only [cond_true, cond_false]
        · rfl
        · cases decide ((d.Heads.length : Int) = 0) <;> simp only [cond_true, cond_false]
          · rfl
          · rcases bool_two (decide (s.Own < s.Peer)) with hq | hq <;> simp only [hq, cond_true, cond_false] <;> rfl
theorem plays_loop : ∀ (l : List TDesc) (a : TSession) (i : Nat), ∃ x, F3_crossroadslaw17_ExchPlays_l1 a a i l = .ok x
  | [], a, i => ⟨_, rfl⟩
  | d :: l, a, i => by
    rw [F3_crossroadslaw17_ExchPlays_l1]
    cases decide ((i : Int) < 120) <;> simp only [cond_true, cond_false]
    · exact ⟨_, rfl⟩
    · cases decide (120 < (d.Heads.length : Int)) <;> simp only [cond_true, cond_false]
      · rw [hear_eq]
        unfold F12_crossroadslaw17_desc F14_crossroadslaw17_plain
        unfold F12_crossroadslaw17_desc
        dsimp only
        generalize F16_crossroadsref17_Hear a d = r
        obtain ⟨t, x, is, e⟩ := r
        have ha : F17_exch_Again t = F18_crossroadsref17_Again t := rfl
        dsimp only
        rw [ha]
        generalize F18_crossroadsref17_Again t = q
        obtain ⟨g, again⟩ := q
        dsimp only
        rw [Sess_refl, Desc_refl, Desc_refl, Sess_refl]
        simp only [beq_self_eq_true, decide_true, cond_true]
        exact plays_loop l t (i + 1)
      · exact plays_loop l a (i + 1)
theorem alive_true : F8_crossroadslaw17_alive = true := by decide
theorem exchPlays_true (s : TStart) (l : List TDesc) (_ : s.ok) (_ : ∀ y ∈ l, TDesc.ok y) : F3_crossroadslaw17_ExchPlays s l = true := by
  unfold F3_crossroadslaw17_ExchPlays
  cases decide (120 < (s.Heads.length : Int)) <;> simp only [cond_true, cond_false]
  · unfold F9_exch_Open F10_crossroadsref17_Open F12_crossroadslaw17_desc F14_crossroadslaw17_plain F12_crossroadslaw17_desc
    dsimp only
    rw [Desc_refl, Sess_refl]
    obtain ⟨x, hx⟩ := plays_loop l (⟨s.Own, s.Peer, 0, false, s.Seq, s.Heads, [], ⟨1500, 2, true, true, true, s.Seq, []⟩⟩ : TSession) 0
    rw [hx]
    simp [alive_true]
  · exact alive_true
end Go.Proofs.Ytbmdpedhobkeeaa.Abs
