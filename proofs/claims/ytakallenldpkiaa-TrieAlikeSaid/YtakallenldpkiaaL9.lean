/- The trie does not depend on the order in which it is laid. Plain law: no program in sight. -/
import Derived.Test.YtakallenldpkiaaL8
set_option linter.unusedVariables false
set_option linter.unusedSimpArgs false
namespace Go.Proofs.Ytakallenldpkiaa.Abs
open Go

theorem mem_insE {p : TPrefix} {v : Int} {e : TEntry} : ∀ {m : List TEntry}, Srt m → (e ∈ insE p v m ↔ e = ⟨p, v⟩ ∨ (e ∈ m ∧ e.P ≠ p))
  | [], _ => by simp [insE]
  | x :: l, hs => by
    obtain ⟨h1, h2⟩ := srt_cons.1 hs
    have ih := mem_insE (p := p) (v := v) (e := e) h2
    rw [insE]
    by_cases hx : x.P = p
    · rw [if_pos hx]
      simp only [List.mem_cons]
      constructor
      · rintro (h | h)
        · exact .inl h
        · exact .inr ⟨.inr h, by rw [← hx]; exact (h1 e h).ne.symm⟩
      · rintro (h | ⟨rfl | h, h3⟩)
        · exact .inl h
        · exact absurd hx h3
        · exact .inr h
    · rw [if_neg hx]
      by_cases hl : F29_crossroadsref03_Less p x.P = true
      · rw [if_pos hl]
        simp only [List.mem_cons]
        constructor
        · rintro (h | rfl | h)
          · exact .inl h
          · exact .inr ⟨.inl rfl, hx⟩
          · exact .inr ⟨.inr h, ((less_Ls.1 hl).trans (h1 e h)).ne.symm⟩
        · rintro (h | ⟨h, _⟩)
          · exact .inl h
          · exact .inr h
      · rw [if_neg hl]
        simp only [List.mem_cons, ih]
        constructor
        · rintro (rfl | h | ⟨h, h3⟩)
          · exact .inr ⟨.inl rfl, hx⟩
          · exact .inl h
          · exact .inr ⟨.inr h, h3⟩
        · rintro (h | ⟨rfl | h, h3⟩)
          · exact .inr (.inl h)
          · exact .inl rfl
          · exact .inr (.inr ⟨h, h3⟩)

theorem srt_ext : ∀ {a b : List TEntry}, Srt a → Srt b → (∀ e, e ∈ a ↔ e ∈ b) → a = b
  | [], [], _, _, _ => rfl
  | [], y :: b, _, _, h => by have := (h y).2 (by simp); cases this
  | x :: a, [], _, _, h => by have := (h x).1 (by simp); cases this
  | x :: a, y :: b, ha, hb, h => by
    obtain ⟨ha1, ha2⟩ := srt_cons.1 ha
    obtain ⟨hb1, hb2⟩ := srt_cons.1 hb
    have hxy : x = y := by
      rcases List.mem_cons.1 ((h x).1 (by simp)) with e | e
      · exact e
      · rcases List.mem_cons.1 ((h y).2 (by simp)) with e2 | e2
        · exact e2.symm
        · exact absurd (ha1 y e2) (hb1 x e).asymm
    subst hxy
    congr 1
    refine srt_ext ha2 hb2 fun e => ?_
    constructor
    · intro he
      rcases List.mem_cons.1 ((h e).1 (by simp [he])) with q | q
      · subst q; exact absurd (ha1 e he) Ls.irr
      · exact q
    · intro he
      rcases List.mem_cons.1 ((h e).2 (by simp [he])) with q | q
      · subst q; exact absurd (hb1 e he) Ls.irr
      · exact q

/-- It holds just the prefixes of those, each with 7. -/
def Just (s : List TAct) (K : Nat → Prop) (m : List TEntry) : Prop := ∀ e, e ∈ m ↔ e.V = 7 ∧ V e.P ∧ ∃ j x, K j ∧ s[j]? = some x ∧ x.P = e.P

theorem just_set {s : List TAct} {K : Nat → Prop} {m : List TEntry} (h : Just s K m) (hs : Srt m) (hl : m.length < 5000) {i : Nat} {x : TAct} (hx : s[i]? = some x) (ho : InK .u32 x.P.A) :
    Just s (fun j => K j ∨ j = i) (putE m x.P 7).1 := by
  have h5 : ¬ (5000 ≤ (m.length : Int)) := by omega
  intro e
  unfold putE
  cases hm : F30_addr_May x.P
  · simp only [cond_false]
    rw [h e]
    constructor
    · rintro ⟨h1, h2, j, y, h3, h4, h6⟩
      exact ⟨h1, h2, j, y, .inl h3, h4, h6⟩
    · rintro ⟨h1, h2, j, y, h3, h4, h6⟩
      rcases h3 with h3 | rfl
      · exact ⟨h1, h2, j, y, h3, h4, h6⟩
      · rw [hx] at h4
        obtain rfl := Option.some.inj h4
        rw [h6] at hm
        rw [(may_V h2.inK).2 h2] at hm
        cases hm
  · have e2 : (bif true then (bif hasP x.P m then (insE x.P 7 m, (0 : Int)) else (bif decide (5000 ≤ (m.length : Int)) then (m, 8) else (insE x.P 7 m, 0))) else (m, 1)).1 = insE x.P 7 m := by
      simp only [h5, decide_false, cond_true, cond_false]
      cases hasP x.P m <;> rfl
    rw [e2, mem_insE hs, h e]
    have hV := (may_V ho).1 hm
    constructor
    · rintro (rfl | ⟨⟨h1, h2, j, y, h3, h4, h6⟩, _⟩)
      · exact ⟨rfl, hV, i, x, .inr rfl, hx, rfl⟩
      · exact ⟨h1, h2, j, y, .inl h3, h4, h6⟩
    · rintro ⟨h1, h2, j, y, h3, h4, h6⟩
      by_cases hp : e.P = x.P
      · left
        obtain ⟨eP, eV⟩ := e
        simp only at hp h1
        rw [hp, h1]
      · right
        rcases h3 with h3 | rfl
        · exact ⟨⟨h1, h2, j, y, h3, h4, h6⟩, hp⟩
        · rw [hx] at h4
          obtain rfl := Option.some.inj h4
          exact absurd h6.symm hp

theorem just_congr {s : List TAct} {K K' : Nat → Prop} {m : List TEntry} (h : Just s K m) (hk : ∀ j, j < s.length → (K j ↔ K' j)) : Just s K' m := by
  intro e
  rw [h e]
  constructor
  · rintro ⟨h1, h2, j, y, h3, h4, h6⟩
    exact ⟨h1, h2, j, y, (hk j (List.getElem?_eq_some_iff.1 h4).1).1 h3, h4, h6⟩
  · rintro ⟨h1, h2, j, y, h3, h4, h6⟩
    exact ⟨h1, h2, j, y, (hk j (List.getElem?_eq_some_iff.1 h4).1).2 h3, h4, h6⟩

theorem putE_len {m : List TEntry} {p : TPrefix} {v : Int} (hs : Srt m) : (putE m p v).1.length ≤ m.length + 1 := by
  unfold putE
  have := insE_len (p := p) (v := v) hs
  have h1 : (if hasP p m = true then 0 else 1) ≤ 1 := by split <;> omega
  cases F30_addr_May p <;> cases hasP p m <;> cases decide (5000 ≤ (m.length : Int)) <;> simp only [cond_true, cond_false] <;> first | omega | (simp at *; omega)

theorem alike_l1 (s : List TAct) (hs : ∀ y ∈ s, TAct.ok y) (N : Nat) (hN : min_ (s.length : Int) 150 = N) (hN1 : N ≤ s.length) (hN2 : N ≤ 150) :
    ∀ (fuel i : Nat) (T U : TTrie) (m k : List TEntry), N - i ≤ fuel → i ≤ N → TSim (80 * i) T m → TSim (80 * i) U k → m.length ≤ i → k.length ≤ 2 * i → Just s (fun j => j < i) m → Just s (fun j => N - i ≤ j ∧ j < N) k →
    ∃ T' U' m' k', F3_crossroadslaw06_TrieAlike_l1 s fuel T.root T.n T.l T.free U.root U.n U.l U.free (i : Int) = some (T'.root, T'.n, T'.l, T'.free, U'.root, U'.n, U'.l, U'.free) ∧
      TSim 12000 T' m' ∧ TSim 12000 U' k' ∧ m' = k'
  | fuel, i, T, U, m, k, hf, hi, hT, hU, hm, hk, jm, jk => by
    unfold F3_crossroadslaw06_TrieAlike_l1
    rw [hN]
    by_cases h : i < N
    · have h' : (i : Int) < (N : Int) := by omega
      match fuel, hf with
      | 0, hf => exact absurd hf (by omega)
      | fuel + 1, hf =>
        simp only [h', decide_true, cond_true, eta4]
        have hi1 : i < s.length := by omega
        have hi2 : N - 1 - i < s.length := by omega
        have g1 : s[i]? = some s[i] := List.getElem?_eq_getElem hi1
        have g2 : s[N - 1 - i]? = some s[N - 1 - i] := List.getElem?_eq_getElem hi2
        have o1 := (hs _ (List.getElem_mem hi1)).1.1
        have o2 := (hs _ (List.getElem_mem hi2)).1.1
        rw [getI_nat g1]
        simp only
        obtain ⟨T1, e1, S1⟩ := set_sim (v := 7) hT (by omega) o1
        rw [e1]
        simp only
        have ew : IntKind.i64.wrap ((IntKind.i64.wrap ((N : Int) - 1)) - (i : Int)) = ((N - 1 - i : Nat) : Int) := by
          rw [wi64 (x := (N : Int) - 1) (by omega) (by omega), wi64 (by omega) (by omega)]; omega
        rw [ew, getI_nat g2]
        simp only
        obtain ⟨U1, e2, S2⟩ := set_sim (v := 7) hU (by omega) o2
        rw [e2]
        simp only
        obtain ⟨U2, e3, S3⟩ := set_sim (v := 7) S2 (by omega) o2
        rw [e3]
        simp only
        rw [show IntKind.i64.wrap ((i : Int) + 1) = ((i + 1 : Nat) : Int) by rw [wi64 (by omega) (by omega)]; omega]
        have l1 := putE_len (p := s[i].P) (v := 7) hT.srt
        have l2 := putE_len (p := s[N - 1 - i].P) (v := 7) hU.srt
        have l3 := putE_len (p := s[N - 1 - i].P) (v := 7) S2.srt
        refine alike_l1 s hs N hN hN1 hN2 fuel (i + 1) T1 U2 _ _ (by omega) (by omega) (S1.mono (by omega)) (S3.mono (by omega)) (by omega) (by omega) ?_ ?_
        · exact just_congr (just_set jm hT.srt (by omega) g1 o1) (fun j hj => by omega)
        · exact just_congr (just_set (just_set jk hU.srt (by omega) g2 o2) S2.srt (by omega) g2 o2) (fun j hj => by omega)
    · have h' : ¬ (i : Int) < (N : Int) := by omega
      simp only [h', decide_false, cond_false]
      refine ⟨T, U, m, k, rfl, hT.mono (by omega), hU.mono (by omega), ?_⟩
      refine srt_ext hT.srt hU.srt fun e => ?_
      rw [jm e, just_congr jk (K' := fun j => j < i) (fun j hj => by omega) e]

theorem trieAlike_true (s : List TAct) (a : Int) (hs : ∀ y ∈ s, TAct.ok y) (ha : InK .u32 a) : F3_crossroadslaw06_TrieAlike s a = some true := by
  unfold F3_crossroadslaw06_TrieAlike
  obtain ⟨N, hN, hN1, hN2⟩ : ∃ N : Nat, min_ (s.length : Int) 150 = N ∧ N ≤ s.length ∧ N ≤ 150 := by
    unfold min_
    split
    · exact ⟨150, rfl, by omega, by omega⟩
    · exact ⟨s.length, rfl, by omega, by omega⟩
  have hfu : fuelUp 0 (min_ (s.length : Int) 150) = N := by
    rw [hN]; exact fuel_nat (i := 0) (by omega) (by omega)
  have j0 : Just s (fun j => j < 0) [] := by
    intro e
    constructor
    · intro h; cases h
    · rintro ⟨_, _, j, y, h3, _⟩; omega
  have j1 : Just s (fun j => N - 0 ≤ j ∧ j < N) [] := by
    intro e
    constructor
    · intro h; cases h
    · rintro ⟨_, _, j, y, h3, _⟩; omega
  obtain ⟨T, U, m, k, e, hT, hU, rfl⟩ := alike_l1 s hs N hN hN1 hN2 N 0 F9_trie_New F9_trie_New [] [] (by omega) (by omega) sim_new sim_new (by simp) (by simp) j0 j1
  simp only
  rw [hfu]
  rw [show ((0 : Nat) : Int) = 0 from rfl] at e
  rw [e]
  simp only [eta4]
  rw [find_sim hT (by omega) ha]
  simp only
  rw [find_sim hU (by omega) ha]
  rcases fndE m a with ⟨f1, f2⟩
  simp only [F12_crossroadslaw06_alive, cond_true]
  rw [walk_sim hT (by omega)]
  simp only
  rw [walk_sim hU (by omega)]
  have h1 : T.n = m.length := hT.n
  have h2 : U.n = m.length := hU.n
  simp only [F13_refl, cond_true, decide_true, Bool.and_true, beq_self_eq_true, F15_trie_Trie_Len, h1, h2]

end Go.Proofs.Ytakallenldpkiaa.Abs
