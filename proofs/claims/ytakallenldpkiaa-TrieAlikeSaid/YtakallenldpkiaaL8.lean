/- The laws of the trie. Plain law: no program in sight. -/
import Derived.Test.YtakallenldpkiaaL7
import Derived.Test.YtakallenldpkiaaTy
set_option linter.unusedVariables false
set_option linter.unusedSimpArgs false
namespace Go.Proofs.Ytakallenldpkiaa.Abs
open Go

theorem eta4 (T : TTrie) : (⟨T.l, T.free, T.root, T.n⟩ : TTrie) = T := rfl

theorem plays_l1 : ∀ (l : List TAct) (i : Nat) (T : TTrie) (m : List TEntry), (∀ y ∈ l, TAct.ok y) → i ≤ 150 → TSim (40 * i) T m →
    ∃ T' m', F4_crossroadslaw06_TriePlays_l1 m T.root T.n T.l T.free i l = some (.ok (m', T'.root, T'.n, T'.l, T'.free)) ∧ TSim 6000 T' m'
  | [], i, T, m, _, hi, h => ⟨T, m, by rw [F4_crossroadslaw06_TriePlays_l1], h.mono (by omega)⟩
  | x :: l, i, T, m, ho, hi, h => by
    obtain ⟨⟨hp, _⟩, hv, ha⟩ := ho x (by simp)
    have hl : ∀ y ∈ l, TAct.ok y := fun y hy => ho y (by simp [hy])
    rw [F4_crossroadslaw06_TriePlays_l1, eta4]
    by_cases h150 : (i : Int) < 150
    · have hB : 40 * i + 40 < 1099511627776 := by omega
      have hlen := h.len
      simp only [h150, decide_true, cond_true]
      cases hd : x.Drop
      · simp only [cond_false]
        obtain ⟨T', e, hS⟩ := set_sim (v := x.V) h hB hp
        have e2 := F18_eq (v := x.V) hp h.srt (by omega)
        rcases hse : putE m x.P x.V with ⟨m', r⟩
        rw [hse] at e hS e2
        rw [e]; simp only; rw [e2]
        simp only [decide_true, cond_true]
        have hlen' := hS.len
        rw [find_sim hS (by omega) ha, F19_eq ha hS.srt hS.allV]
        rcases fndE m' x.A with ⟨f1, f2⟩
        have hn : T'.n = (m'.length : Int) := hS.n
        simp only [decide_true, Bool.and_true, cond_true, beq_self_eq_true, F15_trie_Trie_Len, hn]
        rw [← hn]
        exact plays_l1 l (i + 1) T' m' hl (by omega) hS
      · simp only [cond_true]
        obtain ⟨T', e, hS⟩ := drop_sim h hB hp
        have e2 := F17_eq (p := x.P) (l := m) (by omega)
        rw [e]; simp only; rw [e2]
        simp only [decide_true, cond_true, beq_self_eq_true]
        have hlen' := hS.len
        rw [find_sim hS (by omega) ha, F19_eq ha hS.srt hS.allV]
        rcases fndE (outP x.P m) x.A with ⟨f1, f2⟩
        have hn : T'.n = ((outP x.P m).length : Int) := hS.n
        simp only [decide_true, Bool.and_true, cond_true, beq_self_eq_true, F15_trie_Trie_Len, hn]
        rw [← hn]
        exact plays_l1 l (i + 1) T' (outP x.P m) hl (by omega) hS
    · simp only [h150, decide_false, cond_false]
      exact ⟨T, m, rfl, h.mono (by omega)⟩

theorem triePlays_true (s : List TAct) (q : TPrefix) (hs : ∀ y ∈ s, TAct.ok y) (hq : q.ok) : F4_crossroadslaw06_TriePlays s q = some true := by
  unfold F4_crossroadslaw06_TriePlays
  obtain ⟨T, m, e, hS⟩ := plays_l1 s 0 F9_trie_New [] hs (by omega) sim_new
  simp only
  rw [e]
  have hlen := hS.len
  simp only [F12_crossroadslaw06_alive, cond_true, eta4]
  rw [walk_sim hS (by omega)]
  simp only [F13_refl, cond_true]
  rw [below_sim hS (by omega) hq.1, F21_eq hq.1 hS.allV (by omega)]
  simp only [F13_refl, cond_true]
  rw [above_sim hS (by omega) hq.1, F23_eq hq.1 hS.srt hS.allV (by omega)]
  simp only [F13_refl]

theorem laid_l1 : ∀ (l : List TAct) (i : Nat) (T : TTrie) (m : List TEntry), (∀ y ∈ l, TAct.ok y) → i ≤ 150 → TSim (40 * i) T m →
    ∃ T' m', F24_crossroadslaw06_laid_l1 m T.root T.n T.l T.free i l = some (m', T'.root, T'.n, T'.l, T'.free) ∧ TSim 6000 T' m'
  | [], i, T, m, _, hi, h => ⟨T, m, by rw [F24_crossroadslaw06_laid_l1], h.mono (by omega)⟩
  | x :: l, i, T, m, ho, hi, h => by
    obtain ⟨⟨hp, _⟩, hv, ha⟩ := ho x (by simp)
    have hl : ∀ y ∈ l, TAct.ok y := fun y hy => ho y (by simp [hy])
    rw [F24_crossroadslaw06_laid_l1, eta4]
    by_cases h150 : (i : Int) < 150
    · have hB : 40 * i + 40 < 1099511627776 := by omega
      have hlen := h.len
      simp only [h150, decide_true, cond_true]
      cases hd : x.Drop
      · simp only [cond_false]
        obtain ⟨T', e, hS⟩ := set_sim (v := x.V) h hB hp
        have e2 := F18_eq (v := x.V) hp h.srt (by omega)
        rcases hse : putE m x.P x.V with ⟨m', r⟩
        rw [hse] at e hS e2
        rw [e]; simp only; rw [e2]
        exact laid_l1 l (i + 1) T' m' hl (by omega) hS
      · simp only [cond_true]
        obtain ⟨T', e, hS⟩ := drop_sim h hB hp
        have e2 := F17_eq (p := x.P) (l := m) (by omega)
        rw [e]; simp only; rw [e2]
        exact laid_l1 l (i + 1) T' (outP x.P m) hl (by omega) hS
    · simp only [h150, decide_false, cond_false]
      exact ⟨T, m, rfl, h.mono (by omega)⟩

theorem laid_eq (s : List TAct) (hs : ∀ y ∈ s, TAct.ok y) : ∃ T m, F24_crossroadslaw06_laid s = some (T, m) ∧ TSim 6000 T m := by
  unfold F24_crossroadslaw06_laid
  obtain ⟨T, m, e, hS⟩ := laid_l1 s 0 F9_trie_New [] hs (by omega) sim_new
  simp only
  rw [e]
  exact ⟨T, m, rfl, hS⟩

theorem trieGets_true (s : List TAct) (q : TPrefix) (hs : ∀ y ∈ s, TAct.ok y) (hq : q.ok) : F5_crossroadslaw06_TrieGets s q = some true := by
  unfold F5_crossroadslaw06_TrieGets
  obtain ⟨T, m, e, hS⟩ := laid_eq s hs
  rw [e]
  simp only
  rw [get_sim hS (by omega) hq.1, F26_eq]
  rcases gotE m q with ⟨g1, g2⟩
  simp only [F12_crossroadslaw06_alive, cond_true, decide_true, beq_self_eq_true]
  rw [walk_sim hS (by omega)]
  simp only [F13_refl]

theorem longest_l2 : ∀ (l : List TAct) (i : Nat) (T : TTrie) (m : List TEntry), (∀ y ∈ l, TAct.ok y) → i ≤ 150 → TSim (40 * i) T m →
    ∃ T' m', F6_crossroadslaw06_TrieLongest_l2 T.root T.n T.l T.free i l = some (T'.root, T'.n, T'.l, T'.free) ∧ TSim 6000 T' m'
  | [], i, T, m, _, hi, h => ⟨T, m, by rw [F6_crossroadslaw06_TrieLongest_l2], h.mono (by omega)⟩
  | x :: l, i, T, m, ho, hi, h => by
    obtain ⟨⟨hp, _⟩, hv, ha⟩ := ho x (by simp)
    have hl : ∀ y ∈ l, TAct.ok y := fun y hy => ho y (by simp [hy])
    rw [F6_crossroadslaw06_TrieLongest_l2, eta4]
    by_cases h150 : (i : Int) < 150
    · have hB : 40 * i + 40 < 1099511627776 := by omega
      simp only [h150, decide_true, cond_true]
      cases hd : x.Drop
      · simp only [cond_false]
        obtain ⟨T', e, hS⟩ := set_sim (v := x.V) h hB hp
        rw [e]
        exact longest_l2 l (i + 1) T' _ hl (by omega) hS
      · simp only [cond_true]
        obtain ⟨T', e, hS⟩ := drop_sim h hB hp
        rw [e]
        exact longest_l2 l (i + 1) T' (outP x.P m) hl (by omega) hS
    · simp only [h150, decide_false, cond_false]
      exact ⟨T, m, rfl, h.mono (by omega)⟩

theorem longest_l1 {a : Int} {e : TEntry} {ok : Bool} : ∀ (l : List TEntry) (th : Bool), (∀ x ∈ l, F27_crossroadsref03_Has x.P a = true → ok = true ∧ ¬ e.P.N < x.P.N) →
    F6_crossroadslaw06_TrieLongest_l1 a e ok th l = some (.ok (ok, th || l.any fun x => decide (x = e)))
  | [], th, _ => by simp [F6_crossroadslaw06_TrieLongest_l1]
  | x :: l, th, h => by
    have hl : ∀ y ∈ l, F27_crossroadsref03_Has y.P a = true → ok = true ∧ ¬ e.P.N < y.P.N := fun y hy => h y (by simp [hy])
    rw [F6_crossroadslaw06_TrieLongest_l1]
    by_cases hx : F27_crossroadsref03_Has x.P a = true
    · obtain ⟨rfl, h2⟩ := h x (by simp) hx
      simp only [hx, h2, decide_false, cond_true, cond_false, eeq]
      cases th
      · simp only [cond_false]
        rw [longest_l1 l _ hl]
        simp
      · simp only [cond_true]
        rw [longest_l1 l _ hl]
        simp
    · have hx' : F27_crossroadsref03_Has x.P a = false := Bool.eq_false_iff.2 hx
      simp only [hx', cond_false, eeq]
      cases th
      · simp only [cond_false]
        rw [longest_l1 l _ hl]
        simp
      · simp only [cond_true]
        rw [longest_l1 l _ hl]
        simp

theorem trieLongest_true (s : List TAct) (a : Int) (hs : ∀ y ∈ s, TAct.ok y) (ha : InK .u32 a) : F6_crossroadslaw06_TrieLongest s a = some true := by
  unfold F6_crossroadslaw06_TrieLongest
  obtain ⟨T, m, e, hS⟩ := longest_l2 s 0 F9_trie_New [] hs (by omega) sim_new
  have hlen := hS.len
  simp only
  rw [e]
  simp only [eta4]
  rw [find_sim hS (by omega) ha]
  simp only
  rw [walk_sim hS (by omega)]
  simp only
  have hab := hasA_eq ha hS.allV
  have hch : Chn (hsA a m) := by rw [hab]; exact abP_chain (p := ⟨a, 32⟩) ha hS.srt hS.allV
  have hla : (hsA a m).length ≤ m.length := List.length_filter_le _ _
  unfold fndE
  cases hl : (hsA a m).getLast? with
  | none =>
    have h0 := List.getLast?_eq_none_iff.1 hl
    simp only
    rw [longest_l1 m false (fun x hx hh => by
      have : x ∈ hsA a m := List.mem_filter.2 ⟨hx, hh⟩
      rw [h0] at this; cases this)]
    simp only
    rw [above_sim hS (by omega) (p := ⟨a, 32⟩) ha, ← hab, h0]
    simp [F12_crossroadslaw06_alive]
  | some b =>
    have hb : b ∈ hsA a m := List.mem_of_getLast? hl
    obtain ⟨hb1, hb2⟩ := List.mem_filter.1 hb
    have hmax := chn_max hch hl
    simp only
    rw [longest_l1 (ok := true) m false (fun x hx hh => ⟨rfl, by have := hmax x (List.mem_filter.2 ⟨hx, hh⟩); omega⟩)]
    simp only
    rw [above_sim hS (by omega) (p := ⟨a, 32⟩) ha, ← hab]
    have hne : hsA a m ≠ [] := by intro h; rw [h] at hb; cases hb
    have hpos : (0 : Int) < ((hsA a m).length : Int) := by
      have := List.length_pos_iff.2 hne
      omega
    simp only [hpos, decide_true, beq_self_eq_true, cond_true]
    rw [getI_last hne (by omega), hl]
    have hany : (m.any fun x => decide (x = b)) = true := List.any_eq_true.2 ⟨b, hb1, by simp⟩
    simp only [eeq, decide_true, cond_true, Bool.false_or, hany, hb2, F12_crossroadslaw06_alive]
    rfl

/-! ### In order -/

theorem order_l9 : ∀ (l : List TAct) (i : Nat) (T : TTrie) (m : List TEntry), (∀ y ∈ l, TAct.ok y) → i ≤ 150 → m.length ≤ i → TSim (40 * i) T m →
    ∃ T' m', F7_crossroadslaw06_TrieOrder_l2 T.root T.n T.l T.free i l = some (T'.root, T'.n, T'.l, T'.free) ∧ TSim 6000 T' m' ∧ m'.length ≤ 150
  | [], i, T, m, _, hi, hm, h => ⟨T, m, by rw [F7_crossroadslaw06_TrieOrder_l2], h.mono (by omega), by omega⟩
  | x :: l, i, T, m, ho, hi, hm, h => by
    obtain ⟨⟨hp, _⟩, hv, ha⟩ := ho x (by simp)
    have hl : ∀ y ∈ l, TAct.ok y := fun y hy => ho y (by simp [hy])
    rw [F7_crossroadslaw06_TrieOrder_l2, eta4]
    by_cases h150 : (i : Int) < 150
    · have hB : 40 * i + 40 < 1099511627776 := by omega
      simp only [h150, decide_true, cond_true]
      obtain ⟨T', e, hS⟩ := set_sim (v := x.V) h hB hp
      rw [e]
      refine order_l9 l (i + 1) T' _ hl (by omega) ?_ hS
      unfold putE
      have := insE_len (p := x.P) (v := x.V) h.srt
      have h1 : (if hasP x.P m = true then 0 else 1) ≤ 1 := by split <;> omega
      cases F30_addr_May x.P <;> cases hasP x.P m <;> cases decide (5000 ≤ (m.length : Int)) <;> simp only [cond_true, cond_false] <;> first | omega | (simp at *; omega)
    · simp only [h150, decide_false, cond_false]
      exact ⟨T, m, rfl, h.mono (by omega), by omega⟩

theorem srt_next {m : List TEntry} (h : Srt m) {i : Nat} (h1 : 1 ≤ i) (hi : i < m.length) : F29_crossroadsref03_Less (m[i - 1]'(by omega)).P (m[i]'hi).P = true :=
  less_Ls.2 (List.pairwise_iff_getElem.1 h (i - 1) i (by omega) hi (by omega))

theorem order_l5 {m : List TEntry} (h : Srt m) (hm : m.length < 1099511627776) : ∀ (fuel i : Nat), 1 ≤ i → F7_crossroadslaw06_TrieOrder_l1 m fuel (i : Int) = some (.ok ())
  | fuel, i, h1 => by
    unfold F7_crossroadslaw06_TrieOrder_l1
    by_cases hi : i < m.length
    · have hi' : (i : Int) < (m.length : Int) := by omega
      match fuel with
      | 0 => simp only [hi', decide_true, cond_true]
      | fuel + 1 =>
        simp only [hi', decide_true, cond_true]
        have e1 : getI m (IntKind.i64.wrap ((i : Int) - 1)) = some (m[i - 1]'(by omega)) := by
          rw [wi64 (by omega) (by omega), show ((i : Int) - 1) = ((i - 1 : Nat) : Int) by omega]
          exact getI_nat (List.getElem?_eq_getElem (by omega))
        have e2 : getI m (i : Int) = some (m[i]'hi) := getI_nat (List.getElem?_eq_getElem hi)
        rw [e1]; simp only; rw [e2]
        simp only [srt_next h h1 hi, cond_true]
        rw [show IntKind.i64.wrap ((i : Int) + 1) = ((i + 1 : Nat) : Int) by rw [wi64 (by omega) (by omega)]; omega]
        exact order_l5 h hm fuel (i + 1) (by omega)
    · have hi' : ¬ (i : Int) < (m.length : Int) := by omega
      simp only [hi', decide_false, cond_false]

theorem getE_insE {p : TPrefix} {v : Int} : ∀ {m : List TEntry}, gotE (insE p v m) p = (v, true)
  | [] => by simp [insE, gotE]
  | x :: l => by
    have ih := getE_insE (p := p) (v := v) (m := l)
    rw [insE]
    by_cases hx : x.P = p
    · rw [if_pos hx]; simp [gotE]
    · rw [if_neg hx]
      by_cases hl : F29_crossroadsref03_Less p x.P = true
      · rw [if_pos hl]; simp [gotE]
      · rw [if_neg hl]
        unfold gotE at ih ⊢
        rw [List.find?_cons]
        simp only [hx, decide_false]
        exact ih

theorem outP_insE {p : TPrefix} {v : Int} : ∀ {m : List TEntry}, outP p (insE p v m) = outP p m
  | [] => by simp [insE, outP]
  | x :: l => by
    have ih := outP_insE (p := p) (v := v) (m := l)
    rw [insE]
    by_cases hx : x.P = p
    · rw [if_pos hx]; simp [outP, hx]
    · rw [if_neg hx]
      by_cases hl : F29_crossroadsref03_Less p x.P = true
      · rw [if_pos hl]; simp [outP]
      · rw [if_neg hl]
        unfold outP at ih ⊢
        simp only [List.filter_cons]
        rw [ih]

theorem trieOrder_true (s : List TAct) (p : TPrefix) (v : Int) (hs : ∀ y ∈ s, TAct.ok y) (hp : p.ok) (_ : InK .i64 v) : F7_crossroadslaw06_TrieOrder s p v = some true := by
  unfold F7_crossroadslaw06_TrieOrder
  obtain ⟨T, m, e, hS, hm⟩ := order_l9 s 0 F9_trie_New [] hs (by omega) (by simp) sim_new
  have hlen := hS.len
  simp only
  rw [e]
  simp only [eta4]
  rw [walk_sim hS (by omega)]
  simp only
  rw [get_sim hS (by omega) hp.1]
  obtain ⟨T2, e2, hS2⟩ := set_sim (v := v) hS (by omega) hp.1
  rcases hset : putE m p v with ⟨m2, r⟩
  rw [hset] at e2 hS2
  simp only at e2 hS2
  rcases hg : gotE m p with ⟨g1, g2⟩
  simp only
  rw [e2]
  simp only
  have hlen2 := hS2.len
  rw [get_sim hS2 (by omega) hp.1]
  rcases hg2 : gotE m2 p with ⟨k1, k2⟩
  simp only
  rw [walk_sim hS2 (by omega)]
  simp only
  obtain ⟨T3, e3, hS3⟩ := drop_sim hS2 (by omega) hp.1
  have hlen3 := hS3.len
  have hw3 := walk_sim hS3 (by omega)
  have h17a := F17_eq (p := p) (l := m) (by omega)
  have h17b := F17_eq (p := p) (l := m2) (by omega)
  have ho5 := order_l5 hS2.srt (by omega) (fuelUp 1 (m2.length : Int)) 1 (by omega)
  have hk2 : k2 = hasP p m2 := by rw [← hasP_getE, hg2]
  have hh2 : g2 = hasP p m := by rw [← hasP_getE, hg]
  have h5000 : ¬ (5000 ≤ (m.length : Int)) := by omega
  rw [← may_same hp.1]
  rw [show ((1 : Nat) : Int) = 1 from rfl] at ho5
  cases hmay : F30_addr_May p
  · have hset' : putE m p v = (m, 1) := by unfold putE; rw [hmay]; rfl
    obtain ⟨rfl, rfl⟩ := Prod.mk.inj (hset.symm.trans hset')
    have hno : hasP p m2 = false := hasP_false fun x hx q => by
      have := (may_V (hS.allV x hx).inK).2 (hS.allV x hx)
      rw [q, hmay] at this; cases this
    rw [hno] at hk2 hh2 e3 h17a h17b
    subst hk2 hh2
    simp only [show ¬ ((1 : Int) = 0) by omega, decide_false, beq_self_eq_true, cond_true, cond_false]
    rw [ho5]
    simp only
    rw [h17a]
    simp only
    rw [e3]
    simp only [F12_crossroadslaw06_alive, F13_refl, cond_true]
    rw [hw3]
    simp only [F13_refl, cond_true, cond_false, beq_self_eq_true]
  · have hset' : putE m p v = (insE p v m, 0) := by
      unfold putE; rw [hmay]
      simp only [h5000, decide_false, cond_true, cond_false]
      cases hasP p m <;> rfl
    obtain ⟨rfl, rfl⟩ := Prod.mk.inj (hset.symm.trans hset')
    rw [getE_insE] at hg2
    obtain ⟨rfl, rfl⟩ := Prod.mk.inj hg2
    simp only [decide_true, beq_self_eq_true, cond_true]
    rw [ho5]
    simp only
    rw [h17a]
    simp only
    rw [h17b]
    simp only
    rw [e3]
    simp only [F12_crossroadslaw06_alive, cond_true]
    rw [outP_insE, F13_refl]
    simp only [cond_true]
    rw [hw3]
    simp only
    rw [outP_insE, F13_refl, ← hk2]
    simp only [cond_true, beq_self_eq_true]

end Go.Proofs.Ytakallenldpkiaa.Abs
