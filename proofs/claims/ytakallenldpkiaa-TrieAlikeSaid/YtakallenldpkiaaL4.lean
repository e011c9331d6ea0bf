/- The trie: put, cut. Plain law: no program in sight. -/
import Derived.Test.YtakallenldpkiaaL3
set_option linter.unusedVariables false
set_option linter.unusedSimpArgs false
namespace Go.Proofs.Ytakallenldpkiaa.Abs
open Go

theorem peq (a b : TPrefix) : (decide (a.A = b.A) && (decide (a.N = b.N) && true)) = decide (a = b) := by
  rw [Bool.eq_iff_iff]
  cases a; cases b
  simp

/-- Written into a row in order. -/
def insE (p : TPrefix) (v : Int) : List TEntry → List TEntry
  | [] => [⟨p, v⟩]
  | x :: l => if x.P = p then ⟨p, v⟩ :: l else if F29_crossroadsref03_Less p x.P = true then ⟨p, v⟩ :: x :: l else x :: insE p v l

theorem insE_lt {p : TPrefix} {v : Int} {B : List TEntry} : ∀ {A : List TEntry}, (∀ x ∈ A, Ls x.P p) → insE p v (A ++ B) = A ++ insE p v B
  | [], _ => rfl
  | x :: A, h => by
    have h1 := h x (by simp)
    rw [List.cons_append, insE, if_neg h1.ne, if_neg (fun q => h1.asymm (less_Ls.1 q)), insE_lt (fun y hy => h y (by simp [hy])), List.cons_append]
theorem insE_gt {p : TPrefix} {v : Int} {B : List TEntry} (hB : ∀ x ∈ B, Ls p x.P) : ∀ {A : List TEntry}, insE p v (A ++ B) = insE p v A ++ B
  | [] => by
    cases B with
    | nil => rfl
    | cons b B =>
      have h1 := hB b (by simp)
      have e : insE p v (b :: B) = ⟨p, v⟩ :: b :: B := by rw [insE, if_neg (Ne.symm h1.ne), if_pos (less_Ls.2 h1)]
      exact e
  | x :: A => by
    rw [List.cons_append, insE, insE]
    split
    · rfl
    · split
      · rfl
      · rw [insE_gt hB (A := A), List.cons_append]
theorem insE_all_gt {p : TPrefix} {v : Int} {B : List TEntry} (hB : ∀ x ∈ B, Ls p x.P) : insE p v B = ⟨p, v⟩ :: B := insE_gt (A := []) hB
theorem insE_all_lt {p : TPrefix} {v : Int} {A : List TEntry} (h : ∀ x ∈ A, Ls x.P p) : insE p v A = A ++ [⟨p, v⟩] := by
  have := insE_lt (v := v) (B := []) h
  rwa [List.append_nil] at this

theorem ents_pfx : ∀ {t : Tr} {e : TEntry}, e ∈ t.ents → e.P ∈ t.pfx
  | .nil, e, h => by cases h
  | .nd i p v f l r, e, h => by
    simp only [Tr.ents, Tr.pfx, List.mem_append, List.mem_cons] at *
    rcases h with h | h | h
    · cases f
      · cases h
      · simp only [cond_true, List.mem_singleton] at h
        subst h; exact .inl rfl
    · exact .inr (.inl (ents_pfx h))
    · exact .inr (.inr (ents_pfx h))

theorem wf_V : ∀ {t : Tr}, t.Wf → ∀ q ∈ t.pfx, V q
  | .nil, _, q, h => by cases h
  | .nd i p v f l r, ⟨h1, h2, h3, _⟩, q, h => by
    simp only [Tr.pfx, List.mem_append, List.mem_cons] at h
    rcases h with rfl | h | h
    · exact h1
    · exact wf_V h2 q h
    · exact wf_V h3 q h

theorem wf_C {i : Nat} {p : TPrefix} {v : Int} {f : Bool} {l r : Tr} (h : (Tr.nd i p v f l r).Wf) : ∀ q ∈ (Tr.nd i p v f l r).pfx, C p q := by
  intro q hq
  simp only [Tr.pfx, List.mem_append, List.mem_cons] at hq
  rcases hq with rfl | hq | hq
  · exact .refl h.1
  · exact (h.2.2.2.1 q hq).c
  · exact (h.2.2.2.2.1 q hq).c

theorem ht_le : ∀ {t : Tr} {k : Nat}, t.Wf → k ≤ 33 → (∀ q ∈ t.pfx, (k : Int) ≤ q.N) → k + t.ht ≤ 33
  | .nil, k, _, hk, _ => by simp [Tr.ht, hk]
  | .nd i p v f l r, k, ⟨h1, h2, h3, h4, h5, _⟩, hk, h => by
    have hp := h p (by simp [Tr.pfx])
    have := h1.le
    have g2 := ht_le (k := k + 1) h2 (by omega) (fun q hq => by have := (h4 q hq).lt; omega)
    have g3 := ht_le (k := k + 1) h3 (by omega) (fun q hq => by have := (h5 q hq).lt; omega)
    simp only [Tr.ht]
    omega
theorem ht_33 {t : Tr} (h : t.Wf) : t.ht ≤ 33 := by
  have := ht_le (k := 0) h (by omega) (fun q hq => by have := (wf_V h q hq).le; omega)
  omega

def Srt (l : List TEntry) : Prop := l.Pairwise fun a b => Ls a.P b.P

theorem wf_srt : ∀ {t : Tr}, t.Wf → Srt t.ents
  | .nil, _ => List.Pairwise.nil
  | .nd i p v f l r, ⟨h1, h2, h3, h4, h5, _⟩ => by
    have hc : ∀ q ∈ l.pfx ++ r.pfx, C p q ∧ p ≠ q := by
      intro q hq
      rcases List.mem_append.1 hq with hq | hq
      · exact ⟨(h4 q hq).c, fun e => by have := (h4 q hq).lt; rw [e] at this; omega⟩
      · exact ⟨(h5 q hq).c, fun e => by have := (h5 q hq).lt; rw [e] at this; omega⟩
    unfold Srt
    simp only [Tr.ents]
    rw [List.pairwise_append, List.pairwise_append]
    refine ⟨by cases f <;> simp, ⟨wf_srt h2, wf_srt h3, fun a ha b hb => (h4 _ (ents_pfx ha)).ls (h5 _ (ents_pfx hb))⟩, fun a ha b hb => ?_⟩
    cases f
    · cases ha
    · simp only [cond_true, List.mem_singleton] at ha
      subst ha
      have : b.P ∈ l.pfx ++ r.pfx := by
        rcases List.mem_append.1 hb with hb | hb
        · exact List.mem_append.2 (.inl (ents_pfx hb))
        · exact List.mem_append.2 (.inr (ents_pfx hb))
      exact (hc _ this).1.ls (hc _ this).2

def hasP (p : TPrefix) (l : List TEntry) : Bool := l.any fun x => decide (x.P = p)
theorem hasP_append {p : TPrefix} {A B : List TEntry} : hasP p (A ++ B) = (hasP p A || hasP p B) := by simp [hasP]
theorem hasP_false {p : TPrefix} {A : List TEntry} (h : ∀ x ∈ A, x.P ≠ p) : hasP p A = false := by
  unfold hasP
  rw [List.any_eq_false]
  intro x hx
  simpa using h x hx

/-- What put makes of a tree. -/
structure Lg (p : TPrefix) (v : Int) (t t' : Tr) : Prop where
  wf : t'.Wf
  ents : t'.ents = insE p v t.ents
  un : ∀ x s, (∀ q ∈ t.pfx, Un x s q) → Un x s p → ∀ q ∈ t'.pfx, Un x s q
  nn : t' ≠ .nil

theorem leaf_wf {j : Nat} {p : TPrefix} {v : Int} (h : V p) : (Tr.nd j p v true .nil .nil).Wf :=
  ⟨h, trivial, trivial, (fun _ h => by cases h), (fun _ h => by cases h), fun h => by cases h⟩

theorem getI_nat {α : Type} {L : List α} {i : Nat} {x : α} (h : L[i]? = some x) : getI L (i : Int) = some x := by
  unfold getI
  rw [if_pos (by omega)]
  simpa using h

theorem root_nil : Tr.root .nil = -1 := rfl
theorem root_nd {i : Nat} {p : TPrefix} {v : Int} {f : Bool} {l r : Tr} : Tr.root (.nd i p v f l r) = i := rfl
theorem nat_ne {i : Nat} : ¬ ((i : Int) = -1) := by omega

set_option maxHeartbeats 1000000 in
theorem put_spec {p : TPrefix} {v : Int} (hp : V p) : ∀ (t : Tr) (fuel : Nat) (L : List TNode) (F : List Int) (ro n : Int), t.ht < fuel → TInv L F t → t.Wf → L.length + F.length + 2 < 1099511627776 →
    ∃ L' F' t', F31_trie_Trie_put fuel ⟨L, F, ro, n⟩ t.root p v = some (t'.root, ⟨L', F', ro, if hasP p t.ents = true then n else IntKind.i64.wrap (n + 1)⟩) ∧ Mm 2 L F t L' F' t' ∧ Lg p v t t'
  | .nil, 0, _, _, _, _, h, _, _, _ => absurd h (by omega)
  | .nil, fuel + 1, L, F, ro, n, hf, hi, hw, hs => by
    unfold F31_trie_Trie_put
    simp only [root_nd, root_nil, decide_true, cond_true]
    obtain ⟨j, L', F', e, ha⟩ := add_spec L F ro (IntKind.i64.wrap (n + 1)) (F42_trie_leaf p v) hi.fo (by omega)
    rw [e]
    refine ⟨L', F', .nd j p v true .nil .nil, rfl, ((two_nil hi).add ha).more (by omega), leaf_wf hp, rfl, fun x s _ hu q hq => ?_, fun h => by cases h⟩
    simp only [Tr.pfx, List.append_nil, List.mem_singleton] at hq
    subst hq; exact hu
  | .nd i x w f l r, 0, _, _, _, _, h, _, _, _ => absurd h (by omega)
  | .nd i x w f l r, fuel + 1, L, F, ro, n, hf, hi, hw, hs => by
    obtain ⟨hx, hl, hr, hul, hur, hff⟩ := hw
    have hwf : (Tr.nd i x w f l r).Wf := ⟨hx, hl, hr, hul, hur, hff⟩
    have hall := wf_C hwf
    unfold F31_trie_Trie_put
    simp only [root_nd, root_nil, nat_ne, decide_false, cond_false, getI_nat hi.ok.1, peq]
    have hlh : l.ht < fuel := by simp only [Tr.ht] at hf; omega
    have hrh : r.ht < fuel := by simp only [Tr.ht] at hf; omega
    have hpre : ∀ q ∈ l.pfx ++ r.pfx, C x q ∧ x ≠ q := by
      intro q hq
      rcases List.mem_append.1 hq with hq | hq
      · exact ⟨(hul q hq).c, fun e => by have := (hul q hq).lt; rw [e] at this; omega⟩
      · exact ⟨(hur q hq).c, fun e => by have := (hur q hq).lt; rw [e] at this; omega⟩
    have hpe : ∀ e ∈ l.ents ++ r.ents, C x e.P ∧ x ≠ e.P := by
      intro e he
      refine hpre _ ?_
      rcases List.mem_append.1 he with he | he
      · exact List.mem_append.2 (.inl (ents_pfx he))
      · exact List.mem_append.2 (.inr (ents_pfx he))
    by_cases hxp : x = p
    · subst hxp
      simp only [decide_true, cond_true]
      have hm := (Mm.kid (p' := x) (v' := v) (f' := true) hi (.inl ⟨rfl, rfl, rfl⟩) (Mm.refl hi.left)).2
      have hgt : ∀ e ∈ l.ents ++ r.ents, Ls x e.P := fun e he => (hpe e he).1.ls (hpe e he).2
      have hh : hasP x (Tr.nd i x w f l r).ents = f := by
        simp only [Tr.ents]
        rw [hasP_append, hasP_false (A := l.ents ++ r.ents) (fun e he => Ne.symm (hpe e he).2)]
        cases f <;> simp [hasP]
      have hlg : Lg x v (.nd i x w f l r) (.nd i x v true l r) := by
        refine ⟨⟨hx, hl, hr, hul, hur, fun h => by cases h⟩, ?_, fun y s h _ q hq => h q hq, fun h => by cases h⟩
        simp only [Tr.ents, cond_true]
        cases f
        · simp only [cond_false, List.nil_append]
          rw [insE_all_gt hgt]; rfl
        · simp only [cond_true, List.singleton_append]
          rw [insE, if_pos rfl]
      rw [hh]
      refine ⟨L.set i ⟨x, v, true, ⟨l.root, r.root⟩⟩, F, .nd i x v true l r, ?_, hm.more (by omega), hlg⟩
      cases f
      · simp only [cond_false, List.set_set, Int.toNat_natCast, root_nd, Bool.false_eq_true, if_false]
      · simp only [cond_true, List.set_set, Int.toNat_natCast, root_nd, if_true]
    · simp only [hxp, decide_false, cond_false]
      by_cases hc : C x p
      · have hcb : F34_addr_Covers x p = true := (covers_C hx.inK hp.inK).2 hc
        have hlt := hc.lt hxp
        simp only [hcb, cond_true]
        have hxl : Ls x p := hc.ls hxp
        have hhd : ∀ e ∈ (bif f then [(⟨x, w⟩ : TEntry)] else []), Ls e.P p := by
          intro e he
          cases f
          · cases he
          · simp only [cond_true, List.mem_singleton] at he
            subst he; exact hxl
        have hhp : ∀ B, hasP p ((bif f then [(⟨x, w⟩ : TEntry)] else []) ++ B) = hasP p B := by
          intro B
          rw [hasP_append, hasP_false (fun e he => (hhd e he).ne), Bool.false_or]
        rcases side01 x p hx hp (by have := hp.le; omega) with hsd | hsd
        · have hu : Un x 0 p := ⟨hc, hlt, hsd⟩
          obtain ⟨L1, F1, l', e, hm, hg⟩ := put_spec hp l fuel L F ro n hlh hi.left hl hs
          obtain ⟨h1, h2⟩ := Mm.kid (p' := x) (v' := w) (f' := f) hi (.inl ⟨rfl, rfl, rfl⟩) hm
          have hsz := h1.trans hi.ok.1
          simp only [hsd, decide_true, cond_true]
          rw [e]
          simp only [getI_nat hsz]
          have hrp : ∀ e ∈ r.ents, Ls p e.P := fun e he => hu.ls (hur _ (ents_pfx he))
          have hhas : hasP p (Tr.nd i x w f l r).ents = hasP p l.ents := by
            simp only [Tr.ents]
            rw [hhp, hasP_append, hasP_false (A := r.ents) (fun e he => Ne.symm (hrp e he).ne), Bool.or_false]
          rw [hhas]
          refine ⟨_, F1, .nd i x w f l' r, rfl, h2, ⟨hx, hg.wf, hr, hg.un x 0 hul hu, hur, fun h => ⟨hg.nn, (hff h).2⟩⟩, ?_, ?_, fun h => by cases h⟩
          · simp only [Tr.ents]
            rw [insE_lt hhd, insE_gt hrp, hg.ents]
          · intro y s h hy q hq
            simp only [Tr.pfx, List.mem_cons, List.mem_append] at h hq
            rcases hq with rfl | hq | hq
            · exact h _ (.inl rfl)
            · exact hg.un y s (fun q hq => h q (.inr (.inl hq))) hy q hq
            · exact h q (.inr (.inr hq))
        · have hu : Un x 1 p := ⟨hc, hlt, hsd⟩
          obtain ⟨L1, F1, r', e, hm, hg⟩ := put_spec hp r fuel L F ro n hrh hi.right hr hs
          obtain ⟨h1, h2⟩ := Mm.kid (p' := x) (v' := w) (f' := f) hi (.inr ⟨rfl, rfl, rfl⟩) hm
          have hsz := h1.trans hi.ok.1
          simp only [hsd, show ¬ ((1 : Int) = 0) by omega, decide_true, decide_false, cond_true, cond_false]
          rw [e]
          simp only [getI_nat hsz]
          have hlp : ∀ e ∈ l.ents, Ls e.P p := fun e he => (hul _ (ents_pfx he)).ls hu
          have hhas : hasP p (Tr.nd i x w f l r).ents = hasP p r.ents := by
            simp only [Tr.ents]
            rw [hhp, hasP_append, hasP_false (A := l.ents) (fun e he => (hlp e he).ne), Bool.false_or]
          rw [hhas]
          refine ⟨_, F1, .nd i x w f l r', rfl, h2, ⟨hx, hl, hg.wf, hul, hg.un x 1 hur hu, fun h => ⟨(hff h).1, hg.nn⟩⟩, ?_, ?_, fun h => by cases h⟩
          · simp only [Tr.ents]
            rw [insE_lt hhd, insE_lt hlp, hg.ents]
          · intro y s h hy q hq
            simp only [Tr.pfx, List.mem_cons, List.mem_append] at h hq
            rcases hq with rfl | hq | hq
            · exact h _ (.inl rfl)
            · exact h q (.inr (.inl hq))
            · exact hg.un y s (fun q hq => h q (.inr (.inr hq))) hy q hq
      · have hcb : F34_addr_Covers x p = false := Bool.eq_false_iff.2 fun q => hc ((covers_C hx.inK hp.inK).1 q)
        simp only [hcb, cond_false]
        -- p is not there
        have hne : ∀ e ∈ (Tr.nd i x w f l r).ents, e.P ≠ p := by
          intro e he q
          exact hc (q ▸ hall _ (ents_pfx he))
        have hhas : hasP p (Tr.nd i x w f l r).ents = false := hasP_false hne
        rw [hhas]
        simp only [Bool.false_eq_true, if_false]
        by_cases hc2 : C p x
        · have hcb2 : F34_addr_Covers p x = true := (covers_C hp.inK hx.inK).2 hc2
          have hlt := hc2.lt (Ne.symm hxp)
          simp only [hcb2, cond_true]
          have hgt : ∀ e ∈ (Tr.nd i x w f l r).ents, Ls p e.P := fun e he => (hc2.trans (hall _ (ents_pfx he))).ls (Ne.symm (hne e he))
          have hun : ∀ q ∈ (Tr.nd i x w f l r).pfx, Un p (F43_trie_side p x) q := fun q hq => (Un.mk hc2 hlt rfl).down (hall q hq)
          rcases side01 p x hp hx (by have := hx.le; omega) with hsd | hsd
          · simp only [hsd, decide_true, cond_true]
            rw [hsd] at hun
            obtain ⟨j, L', F', e, ha⟩ := add_spec L F ro (IntKind.i64.wrap (n + 1)) (⟨p, v, true, ⟨(i : Int), -1⟩⟩) hi.fo (by omega)
            refine ⟨L', F', .nd j p v true (.nd i x w f l r) .nil, e, ((two_nil hi).add ha).more (by omega), ⟨hp, hwf, trivial, hun, (fun _ h => by cases h), fun h => by cases h⟩, ?_, ?_, fun h => by cases h⟩
            · rw [insE_all_gt hgt]
              simp only [Tr.ents, cond_true, List.append_nil, List.singleton_append]
            · intro y s h hy q hq
              simp only [Tr.pfx, List.mem_cons, List.mem_append, List.append_nil] at hq
              rcases hq with rfl | hq
              · exact hy
              · exact h q (by simp only [Tr.pfx, List.mem_cons, List.mem_append]; exact hq)
          · simp only [hsd, show ¬ ((1 : Int) = 0) by omega, decide_true, decide_false, cond_true, cond_false]
            rw [hsd] at hun
            obtain ⟨j, L', F', e, ha⟩ := add_spec L F ro (IntKind.i64.wrap (n + 1)) (⟨p, v, true, ⟨-1, (i : Int)⟩⟩) hi.fo (by omega)
            refine ⟨L', F', .nd j p v true .nil (.nd i x w f l r), e, ((two_nil hi).swap.add ha).more (by omega), ⟨hp, trivial, hwf, (fun _ h => by cases h), hun, fun h => by cases h⟩, ?_, ?_, fun h => by cases h⟩
            · rw [insE_all_gt hgt]
              simp only [Tr.ents, cond_true, List.nil_append, List.singleton_append]
            · intro y s h hy q hq
              simp only [Tr.pfx, List.mem_cons, List.mem_append, List.nil_append] at hq
              rcases hq with rfl | hq
              · exact hy
              · exact h q (by simp only [Tr.pfx, List.mem_cons, List.mem_append]; exact hq)
        · have hcb2 : F34_addr_Covers p x = false := Bool.eq_false_iff.2 fun q => hc2 ((covers_C hp.inK hx.inK).1 q)
          simp only [hcb2, cond_false]
          obtain ⟨c, ec, vc, c1, c2, n1, n2, hd⟩ := common_spec hp hx hc2 hc
          rw [ec]
          have hc32 : c.N < 32 := by have := hx.le; omega
          obtain ⟨j1, L1, F1, e1, a1⟩ := add_spec L F ro (IntKind.i64.wrap (n + 1)) (F42_trie_leaf p v) hi.fo (by omega)
          have hsz1 := a1.sz
          have htw := AddR.two (t := .nd i x w f l r) hi a1
          have hup : Un c (F43_trie_side c p) p := ⟨c1, n1, rfl⟩
          have hux : ∀ q ∈ (Tr.nd i x w f l r).pfx, Un c (F43_trie_side c x) q := fun q hq => (Un.mk c2 n2 rfl).down (hall q hq)
          have hcu : ∀ y s, (∀ q ∈ (Tr.nd i x w f l r).pfx, Un y s q) → Un y s p → Un y s c := fun y s h hy => Un.common hy (h x (by simp [Tr.pfx])) c1 c2 hd
          rcases side01 c x vc hx hc32 with hsx | hsx
          · have hsp : F43_trie_side c p = 1 := by
              rcases side01 c p vc hp hc32 with h | h
              · rw [h, hsx] at hd; exact absurd rfl hd
              · exact h
            rw [hsx] at hux; rw [hsp] at hup
            simp only [hsx, hsp, e1, show ¬ ((1 : Int) = 0) by omega, decide_true, decide_false, cond_true, cond_false]
            obtain ⟨j2, L2, F2, e2, a2⟩ := add_spec L1 F1 ro (IntKind.i64.wrap (n + 1)) (⟨c, 0, false, ⟨(i : Int), (j1 : Int)⟩⟩) a1.fo (by omega)
            refine ⟨L2, F2, .nd j2 c 0 false (.nd i x w f l r) (.nd j1 p v true .nil .nil), e2, htw.swap.add a2, ⟨vc, hwf, leaf_wf hp, hux, ?_, fun _ => ⟨(fun h => by cases h), fun h => by cases h⟩⟩, ?_, ?_, fun h => by cases h⟩
            · intro q hq
              simp only [Tr.pfx, List.append_nil, List.mem_singleton] at hq
              subst hq; exact hup
            · rw [insE_all_lt (fun e he => (hux _ (ents_pfx he)).ls hup)]
              simp only [Tr.ents, cond_true, cond_false, List.nil_append, List.append_nil]
            · intro y s h hy q hq
              have hq' : q = c ∨ q ∈ (Tr.nd i x w f l r).pfx ∨ q = p := by
                rw [Tr.pfx, List.mem_cons, List.mem_append] at hq
                rcases hq with hq | hq | hq
                · exact .inl hq
                · exact .inr (.inl hq)
                · right; right
                  simpa [Tr.pfx] using hq
              rcases hq' with rfl | hq | rfl
              · exact hcu y s h hy
              · exact h q hq
              · exact hy
          · have hsp : F43_trie_side c p = 0 := by
              rcases side01 c p vc hp hc32 with h | h
              · exact h
              · rw [h, hsx] at hd; exact absurd rfl hd
            rw [hsx] at hux; rw [hsp] at hup
            simp only [hsx, hsp, e1, show ¬ ((1 : Int) = 0) by omega, decide_true, decide_false, cond_true, cond_false]
            obtain ⟨j2, L2, F2, e2, a2⟩ := add_spec L1 F1 ro (IntKind.i64.wrap (n + 1)) (⟨c, 0, false, ⟨(j1 : Int), (i : Int)⟩⟩) a1.fo (by omega)
            refine ⟨L2, F2, .nd j2 c 0 false (.nd j1 p v true .nil .nil) (.nd i x w f l r), e2, htw.add a2, ⟨vc, leaf_wf hp, hwf, ?_, hux, fun _ => ⟨(fun h => by cases h), fun h => by cases h⟩⟩, ?_, ?_, fun h => by cases h⟩
            · intro q hq
              simp only [Tr.pfx, List.append_nil, List.mem_singleton] at hq
              subst hq; exact hup
            · rw [insE_all_gt (fun e he => hup.ls (hux _ (ents_pfx he)))]
              simp only [Tr.ents, cond_true, cond_false, List.nil_append, List.append_nil, List.singleton_append]
            · intro y s h hy q hq
              have hq' : q = c ∨ q = p ∨ q ∈ (Tr.nd i x w f l r).pfx := by
                rw [Tr.pfx, List.mem_cons, List.mem_append] at hq
                rcases hq with hq | hq | hq
                · exact .inl hq
                · right; left
                  simpa [Tr.pfx] using hq
                · exact .inr (.inr hq)
              rcases hq' with rfl | rfl | hq
              · exact hcu y s h hy
              · exact hy
              · exact h q hq

end Go.Proofs.Ytakallenldpkiaa.Abs
