/- The trie answers as the row in order does. Plain law: no program in sight. -/
import Derived.Test.YtakallenldpkiaaL6
set_option linter.unusedVariables false
set_option linter.unusedSimpArgs false
namespace Go.Proofs.Ytakallenldpkiaa.Abs
open Go

/-- The trie holds what the row holds. -/
structure TSim (B : Nat) (T : TTrie) (m : List TEntry) : Prop where
  ex : ∃ t : Tr, T.root = t.root ∧ TInv T.l T.free t ∧ t.Wf ∧ t.ents = m
  n : T.n = m.length
  len : m.length ≤ B
  sz : T.l.length + T.free.length ≤ B

theorem TSim.mono {B B' : Nat} {T : TTrie} {m : List TEntry} (h : TSim B T m) (hb : B ≤ B') : TSim B' T m := ⟨h.ex, h.n, by have := h.len; omega, by have := h.sz; omega⟩
theorem TSim.srt {B : Nat} {T : TTrie} {m : List TEntry} (h : TSim B T m) : Srt m := by
  obtain ⟨t, _, _, hw, rfl⟩ := h.ex
  exact wf_srt hw
theorem TSim.allV {B : Nat} {T : TTrie} {m : List TEntry} (h : TSim B T m) : AllV m := by
  obtain ⟨t, _, _, hw, rfl⟩ := h.ex
  exact fun e he => wf_V hw _ (ents_pfx he)
theorem sim_new : TSim 0 F9_trie_New [] :=
  ⟨⟨.nil, rfl, inv_nil ⟨List.nodup_nil, fun _ h => by cases h⟩, trivial, rfl⟩, rfl, Nat.le_refl _, by simp [F9_trie_New]⟩

section
variable {B : Nat} {T : TTrie} {m : List TEntry}

theorem above_sim (h : TSim B T m) (hB : B + 40 < 1099511627776) {p : TPrefix} (hp : InK .u32 p.A) : F22_trie_Trie_Above T p = some (abP p m) := by
  obtain ⟨t, h1, h2, h3, rfl⟩ := h.ex
  unfold F22_trie_Trie_Above F36_trie_Trie_down
  have := ht_33 h3
  obtain ⟨X, e, hX⟩ := down_spec hp T t 100 [] (by omega) h2.ok h3 (by simp only [List.length_nil]; omega)
  rw [h1, e]
  rw [List.nil_append] at hX
  rw [← hX]
  rcases X with r | ⟨i, r⟩ <;> rfl

theorem below_sim (h : TSim B T m) (hB : B + 40 < 1099511627776) {p : TPrefix} (hp : InK .u32 p.A) : F20_trie_Trie_Below T p = some (beP p m) := by
  obtain ⟨t, h1, h2, h3, rfl⟩ := h.ex
  unfold F20_trie_Trie_Below
  have := ht_33 h3
  have := h.len
  by_cases hm : F30_addr_May p = true
  · simp only [hm, cond_true]
    rw [h1, below_spec ((may_V hp).1 hm) T t 100 [] (by omega) h2.ok h3 (by simp only [List.length_nil]; omega), List.nil_append]
  · have hm' : F30_addr_May p = false := Bool.eq_false_iff.2 hm
    simp only [hm', cond_false]
    rw [beP_none]
    intro e he
    exact cov_false hp (h.allV e he).inK fun g => hm ((may_V hp).2 g.left)

theorem V00 : V ⟨0, 0⟩ := ⟨0, 0, rfl, rfl, by omega, by omega, rfl⟩
theorem walk_sim (h : TSim B T m) (hB : B + 40 < 1099511627776) : F14_trie_Trie_Walk T = some m := by
  unfold F14_trie_Trie_Walk
  rw [below_sim h hB V00.inK]
  congr 1
  unfold beP
  rw [List.filter_eq_self]
  intro e he
  obtain ⟨a, n, hv⟩ := h.allV e he
  refine (covers_C V00.inK (h.allV e he).inK).2 ⟨0, 0, a, n, ⟨rfl, rfl, by omega, by omega, rfl⟩, hv, by omega, ?_⟩
  have := hv.lt
  rw [Nat.div_eq_of_lt (by omega), Nat.div_eq_of_lt (by omega)]

theorem getE_last (hs : Srt m) (hv : AllV m) {p : TPrefix} (hp : InK .u32 p.A) : gotE m p = match (abP p m).getLast? with
    | some e => if e.P = p then (e.V, true) else (0, false)
    | none => (0, false) := by
  have hc := abP_chain hp hs hv
  unfold gotE
  cases hf : m.find? (fun x => decide (x.P = p)) with
  | some e =>
    have hm := List.mem_of_find?_eq_some hf
    have hep : e.P = p := by simpa using List.find?_some hf
    have hV : V p := hep ▸ hv e hm
    have hin : e ∈ abP p m := List.mem_filter.2 ⟨hm, by rw [hep]; exact (covers_C hV.inK hV.inK).2 (C.refl hV)⟩
    have hl := chn_last hc hin (fun x hx => by
      have := ((covers_C (hv x (List.mem_filter.1 hx).1).inK hp).1 (List.mem_filter.1 hx).2).le
      rw [hep]; exact this)
    rw [hl]
    simp only [hep, if_true]
  | none =>
    cases hl : (abP p m).getLast? with
    | none => rfl
    | some e =>
      have hin : e ∈ abP p m := List.mem_of_getLast? hl
      have := List.find?_eq_none.1 hf e (List.mem_filter.1 hin).1
      have hne : e.P ≠ p := by simpa using this
      simp only [hne, if_false]

theorem get_sim (h : TSim B T m) (hB : B + 40 < 1099511627776) {p : TPrefix} (hp : InK .u32 p.A) : F25_trie_Trie_Get T p = some (gotE m p) := by
  unfold F25_trie_Trie_Get
  rw [above_sim h hB hp, getE_last h.srt h.allV hp]
  simp only
  have hlen : (abP p m).length ≤ m.length := List.length_filter_le _ _
  have := h.len
  by_cases h0 : abP p m = []
  · rw [h0]; rfl
  · have hne : ¬ ((abP p m).length : Int) = 0 := by
      have := List.length_pos_iff.2 h0
      omega
    simp only [hne, decide_false, cond_false]
    rw [getI_last h0 (by omega)]
    cases hl : (abP p m).getLast? with
    | none => exact absurd (List.getLast?_eq_none_iff.1 hl) h0
    | some e =>
      simp only [peq]
      by_cases he : e.P = p
      · simp only [he, decide_true, cond_true, if_true]
      · simp only [he, decide_false, cond_false, if_false]

theorem find_sim (h : TSim B T m) (hB : B + 40 < 1099511627776) {a : Int} (ha : InK .u32 a) : F11_trie_Trie_Find T a = some (fndE m a) := by
  unfold F11_trie_Trie_Find fndE
  rw [above_sim h hB (p := ⟨a, 32⟩) ha, hasA_eq ha h.allV]
  simp only
  have hlen : (abP ⟨a, 32⟩ m).length ≤ m.length := List.length_filter_le _ _
  have := h.len
  by_cases h0 : abP ⟨a, 32⟩ m = []
  · rw [h0]; rfl
  · have hne : ¬ ((abP ⟨a, 32⟩ m).length : Int) = 0 := by
      have := List.length_pos_iff.2 h0
      omega
    simp only [hne, decide_false, cond_false]
    rw [getI_last h0 (by omega)]
    cases hl : (abP ⟨a, 32⟩ m).getLast? with
    | none => exact absurd (List.getLast?_eq_none_iff.1 hl) h0
    | some e => rfl

theorem hasP_getE {p : TPrefix} : (gotE m p).2 = hasP p m := by
  unfold gotE hasP
  cases hf : m.find? (fun x => decide (x.P = p)) with
  | some e => exact (List.any_eq_true.2 ⟨e, List.mem_of_find?_eq_some hf, List.find?_some hf⟩).symm
  | none => exact (List.any_eq_false.2 (List.find?_eq_none.1 hf)).symm

theorem insE_len {p : TPrefix} {v : Int} : ∀ {m : List TEntry}, Srt m → (insE p v m).length = m.length + (if hasP p m = true then 0 else 1)
  | [], _ => rfl
  | x :: l, hs => by
    obtain ⟨h1, h2⟩ := srt_cons.1 hs
    have ih := insE_len (p := p) (v := v) h2
    rw [insE]
    by_cases hx : x.P = p
    · rw [if_pos hx]
      have : hasP p (x :: l) = true := by simp [hasP, hx]
      rw [this]; simp
    · have e : hasP p (x :: l) = hasP p l := by simp [hasP, hx]
      rw [if_neg hx, e]
      by_cases hl : F29_crossroadsref03_Less p x.P = true
      · rw [if_pos hl]
        have : hasP p l = false := hasP_false (fun y hy => Ne.symm ((less_Ls.1 hl).trans (h1 y hy)).ne)
        rw [this]; simp
      · rw [if_neg hl, List.length_cons, ih, List.length_cons]; omega

theorem outP_has {p : TPrefix} : ∀ {m : List TEntry}, Srt m → hasP p m = true → (outP p m).length + 1 = m.length
  | [], _, h => by cases h
  | x :: l, hs, h => by
    obtain ⟨h1, h2⟩ := srt_cons.1 hs
    by_cases hx : x.P = p
    · have e : outP p (x :: l) = outP p l := by simp [outP, hx]
      rw [e, outP_same (fun y hy => by rw [← hx]; exact (h1 y hy).ne.symm)]; rfl
    · have e : outP p (x :: l) = x :: outP p l := by simp [outP, hx]
      have e2 : hasP p (x :: l) = hasP p l := by simp [hasP, hx]
      rw [e, List.length_cons, outP_has h2 (e2 ▸ h), List.length_cons]

theorem put_sim (h : TSim B T m) (hB : B + 40 < 1099511627776) {p : TPrefix} {v : Int} (hp : V p) :
    ∃ i L' F' n', F31_trie_Trie_put 100 T T.root p v = some (i, ⟨L', F', T.root, n'⟩) ∧ TSim (B + 40) ⟨L', F', i, n'⟩ (insE p v m) := by
  have hs := h.srt
  have hn := h.n
  have hlen := h.len
  have hsz := h.sz
  obtain ⟨t, h1, h2, h3, rfl⟩ := h.ex
  have := ht_33 h3
  obtain ⟨L', F', t', e, hm, hg⟩ := put_spec (v := v) hp t 100 T.l T.free T.root T.n (by omega) h2 h3 (by omega)
  rw [← h1] at e
  refine ⟨_, L', F', _, e, ⟨t', rfl, hm.inv, hg.wf, hg.ents⟩, ?_, ?_, ?_⟩
  · simp only
    rw [insE_len hs, hn]
    split
    · simp
    · rw [wi64 (by omega) (by omega)]; simp
  · rw [insE_len hs]; split <;> omega
  · have := hm.sz; simp only; omega

theorem set_sim (h : TSim B T m) (hB : B + 40 < 1099511627776) {p : TPrefix} {v : Int} (hp : InK .u32 p.A) :
    ∃ T', F10_trie_Trie_Set T p v = some ((putE m p v).2, T') ∧ TSim (B + 40) T' (putE m p v).1 := by
  unfold F10_trie_Trie_Set putE
  by_cases hm : F30_addr_May p = true
  · have hV := (may_V hp).1 hm
    obtain ⟨i, L', F', n', e, hS⟩ := put_sim (v := v) h hB hV
    simp only [hm, cond_true]
    rw [get_sim h hB hp]
    have hh := hasP_getE (m := m) (p := p)
    rcases hg : gotE m p with ⟨g1, g2⟩
    rw [hg] at hh
    simp only at hh ⊢
    rw [hh]
    cases hasP p m
    · simp only [cond_false, h.n]
      cases hd : decide (5000 ≤ (m.length : Int))
      · simp only [cond_false]
        rw [e]
        exact ⟨_, rfl, hS⟩
      · simp only [cond_true]
        exact ⟨T, rfl, h.mono (by omega)⟩
    · simp only [cond_true]
      rw [e]
      exact ⟨_, rfl, hS⟩
  · have hm' : F30_addr_May p = false := Bool.eq_false_iff.2 hm
    simp only [hm', cond_false]
    exact ⟨T, rfl, h.mono (by omega)⟩

theorem drop_sim (h : TSim B T m) (hB : B + 40 < 1099511627776) {p : TPrefix} (hp : InK .u32 p.A) :
    ∃ T', F16_trie_Trie_Drop T p = some (hasP p m, T') ∧ TSim (B + 40) T' (outP p m) := by
  unfold F16_trie_Trie_Drop
  rw [get_sim h hB hp]
  have hh := hasP_getE (m := m) (p := p)
  rcases hg : gotE m p with ⟨g1, g2⟩
  rw [hg] at hh
  simp only at hh ⊢
  rw [hh]
  cases hb : hasP p m
  · simp only [cond_false]
    refine ⟨T, rfl, ?_⟩
    rw [outP_same]
    · exact h.mono (by omega)
    · intro x hx q
      have : hasP p m = true := hasP_mem.2 ⟨x, hx, q⟩
      rw [hb] at this; cases this
  · simp only [cond_true]
    have hs := h.srt
    have hn := h.n
    have hlen := h.len
    have hsz := h.sz
    have hV : V p := by
      obtain ⟨e, he, rfl⟩ := hasP_mem.1 hb
      exact h.allV e he
    have hol := outP_has hs hb
    obtain ⟨t, h1, h2, h3, rfl⟩ := h.ex
    have := ht_33 h3
    obtain ⟨L', F', t', e, hm, hc⟩ := cut_spec hV t 100 T.l T.free T.root (IntKind.i64.wrap (T.n - 1)) (by omega) h2 h3 (by omega) hb
    rw [← h1] at e
    rw [e]
    refine ⟨_, rfl, ⟨t', rfl, hm.inv, hc.wf, hc.ents⟩, ?_, ?_, ?_⟩
    · simp only
      rw [hn, wi64 (by omega) (by omega)]
      omega
    · omega
    · have := hm.sz; simp only; omega

theorem len_sim (h : TSim B T m) : F15_trie_Trie_Len T = m.length := h.n
end

end Go.Proofs.Ytakallenldpkiaa.Abs
