/- The trie: cut, what stands above and below. Plain law: no program in sight. -/
import Derived.Test.YtakallenldpkiaaL4
set_option linter.unusedVariables false
set_option linter.unusedSimpArgs false
namespace Go.Proofs.Ytakallenldpkiaa.Abs
open Go

def outP (p : TPrefix) (l : List TEntry) : List TEntry := l.filter fun x => !decide (x.P = p)
theorem outP_append {p : TPrefix} {A B : List TEntry} : outP p (A ++ B) = outP p A ++ outP p B := by simp [outP]
theorem outP_same {p : TPrefix} {A : List TEntry} (h : ∀ x ∈ A, x.P ≠ p) : outP p A = A := by
  unfold outP
  rw [List.filter_eq_self]
  intro x hx
  simpa using h x hx

structure Lc (p : TPrefix) (t t' : Tr) : Prop where
  wf : t'.Wf
  ents : t'.ents = outP p t.ents
  un : ∀ q ∈ t'.pfx, q ∈ t.pfx

theorem tidy_spec {b : Nat} {L : List TNode} {F : List Int} {t : Tr} {L1 : List TNode} {F1 : List Int} {i : Nat} {x : TPrefix} {w : Int} {f : Bool} {a c : Tr}
    (k : Mm b L F t L1 F1 (.nd i x w f a c)) (hit : i ∈ t.ids) (hs : L.length + F.length + b < 1099511627776) (ro n : Int)
    (hx : V x) (ha : a.Wf) (hc : c.Wf) (hua : ∀ q ∈ a.pfx, Un x 0 q) (huc : ∀ q ∈ c.pfx, Un x 1 q) :
    ∃ F2 t', F45_trie_Trie_tidy ⟨L1, F1, ro, n⟩ (i : Int) = some (t'.root, ⟨L1, F2, ro, n⟩) ∧ Mm (b + 1) L F t L1 F2 t' ∧ t'.Wf ∧ t'.ents = (Tr.nd i x w f a c).ents ∧ ∀ q ∈ t'.pfx, q ∈ (Tr.nd i x w f a c).pfx := by
  have hsz := k.sz
  have hF : F1.length < 1099511627776 := by omega
  unfold F45_trie_Trie_tidy
  simp only [getI_nat k.inv.ok.1, hF, decide_true, cond_true]
  cases f
  · simp only [cond_false]
    cases a with
    | nil =>
      simp only [root_nil, decide_true, cond_true]
      refine ⟨F1 ++ [(i : Int)], c, ?_, (k.drop hit).2, hc, by simp [Tr.ents], fun q hq => by simp [Tr.pfx, hq]⟩
      have e : max_ (-1) c.root = c.root := by
        have := root_ge c
        unfold max_
        split <;> omega
      rw [e]
    | nd i' x' w' f' a1 a2 =>
      simp only [root_nd, nat_ne, decide_false, cond_false]
      cases c with
      | nil =>
        simp only [root_nil, decide_true, cond_true]
        refine ⟨F1 ++ [(i : Int)], .nd i' x' w' f' a1 a2, ?_, (k.drop hit).1, ha, by simp [Tr.ents], fun q hq => by simp only [Tr.pfx, List.append_nil, List.mem_cons]; exact .inr (by simpa [Tr.pfx] using hq)⟩
        have e : max_ (i' : Int) (-1) = i' := by
          unfold max_
          split <;> omega
        rw [e]; rfl
      | nd j' y' u' g' c1 c2 =>
        simp only [root_nd, nat_ne, decide_false, cond_false]
        exact ⟨F1, _, rfl, k.more (by omega), ⟨hx, ha, hc, hua, huc, fun _ => ⟨(fun h => by cases h), (fun h => by cases h)⟩⟩, rfl, fun q hq => hq⟩
  · simp only [cond_true]
    exact ⟨F1, _, rfl, k.more (by omega), ⟨hx, ha, hc, hua, huc, (fun h => by cases h)⟩, rfl, fun q hq => hq⟩

theorem hasP_mem {p : TPrefix} {l : List TEntry} : hasP p l = true ↔ ∃ e ∈ l, e.P = p := by simp [hasP]

theorem cut_spec {p : TPrefix} (hp : V p) : ∀ (t : Tr) (fuel : Nat) (L : List TNode) (F : List Int) (ro n : Int), t.ht < fuel → TInv L F t → t.Wf → L.length + F.length + t.ht < 1099511627776 → hasP p t.ents = true →
    ∃ L' F' t', F32_trie_Trie_cut fuel ⟨L, F, ro, n⟩ t.root p = some (t'.root, ⟨L', F', ro, n⟩) ∧ Mm t.ht L F t L' F' t' ∧ Lc p t t'
  | .nil, _, _, _, _, _, _, _, _, _, hm => by simp [hasP, Tr.ents] at hm
  | .nd i x w f l r, 0, _, _, _, _, h, _, _, _, _ => absurd h (by omega)
  | .nd i x w f l r, fuel + 1, L, F, ro, n, hf, hi, hw, hs, hm => by
    obtain ⟨hx, hl, hr, hul, hur, hff⟩ := hw
    have hlh : l.ht < fuel := by simp only [Tr.ht] at hf; omega
    have hrh : r.ht < fuel := by simp only [Tr.ht] at hf; omega
    have hls : L.length + F.length + l.ht < 1099511627776 := by simp only [Tr.ht] at hs; omega
    have hrs : L.length + F.length + r.ht < 1099511627776 := by simp only [Tr.ht] at hs; omega
    have hs0 : L.length + F.length < 1099511627776 := by omega
    unfold F32_trie_Trie_cut
    simp only [root_nd, getI_nat hi.ok.1, peq]
    have hii : i ∈ (Tr.nd i x w f l r).ids := by simp [Tr.ids]
    have hlx : ∀ e ∈ l.ents, e.P ≠ x := fun e he q => by have := (hul _ (ents_pfx he)).lt; rw [q] at this; omega
    have hrx : ∀ e ∈ r.ents, e.P ≠ x := fun e he q => by have := (hur _ (ents_pfx he)).lt; rw [q] at this; omega
    by_cases hxp : x = p
    · subst hxp
      simp only [decide_true, cond_true, List.set_set, Int.toNat_natCast]
      have hk := (Mm.kid (p' := x) (v' := 0) (f' := false) hi (.inl ⟨rfl, rfl, rfl⟩) (Mm.refl hi.left)).2
      obtain ⟨F2, t', e, k2, hw', he, hq⟩ := tidy_spec hk hii (by omega) ro n hx hl hr hul hur
      refine ⟨_, F2, t', e, k2.more (by simp only [Tr.ht]; omega), hw', ?_, fun q h => by simpa [Tr.pfx] using hq q h⟩
      rw [he]
      simp only [Tr.ents, cond_false, List.nil_append]
      rw [outP_append, outP_append, outP_same hlx, outP_same hrx]
      cases f <;> simp [outP]
    · simp only [hxp, decide_false, cond_false]
      have hhd : ∀ B, outP p ((bif f then [(⟨x, w⟩ : TEntry)] else []) ++ B) = (bif f then [(⟨x, w⟩ : TEntry)] else []) ++ outP p B := by
        intro B
        rw [outP_append, outP_same (A := (bif f then [(⟨x, w⟩ : TEntry)] else []))]
        intro e he
        cases f
        · cases he
        · simp only [cond_true, List.mem_singleton] at he
          subst he; exact hxp
      have hlr : hasP p l.ents = true ∨ hasP p r.ents = true := by
        obtain ⟨e, he, hep⟩ := hasP_mem.1 hm
        simp only [Tr.ents, List.mem_append] at he
        rcases he with he | he | he
        · cases f
          · cases he
          · simp only [cond_true, List.mem_singleton] at he
            subst he; exact absurd hep hxp
        · exact .inl (hasP_mem.2 ⟨e, he, hep⟩)
        · exact .inr (hasP_mem.2 ⟨e, he, hep⟩)
      rcases hlr with hin | hin
      · obtain ⟨e0, he0, hep⟩ := hasP_mem.1 hin
        have hu : Un x 0 p := hep ▸ hul _ (ents_pfx he0)
        obtain ⟨L1, F1, l', e, hk, hg⟩ := cut_spec hp l fuel L F ro n hlh hi.left hl hls hin
        obtain ⟨h1, h2⟩ := Mm.kid (p' := x) (v' := w) (f' := f) hi (.inl ⟨rfl, rfl, rfl⟩) hk
        simp only [hu.sd, decide_true, cond_true]
        rw [e]
        simp only [getI_nat (h1.trans hi.ok.1), Int.toNat_natCast]
        obtain ⟨F2, t', e2, k2, hw', he, hq⟩ := tidy_spec h2 hii hls ro n hx hg.wf hr (fun q h => hul q (hg.un q h)) hur
        refine ⟨_, F2, t', e2, k2.more (by simp only [Tr.ht]; omega), hw', ?_, fun q h => ?_⟩
        · rw [he]
          simp only [Tr.ents]
          rw [hhd, outP_append, hg.ents, outP_same (A := r.ents) (fun e he q => (hu.ls (hur _ (ents_pfx he))).ne q.symm)]
        · have := hq q h
          simp only [Tr.pfx, List.mem_cons, List.mem_append] at this ⊢
          rcases this with h | h | h
          · exact .inl h
          · exact .inr (.inl (hg.un q h))
          · exact .inr (.inr h)
      · obtain ⟨e0, he0, hep⟩ := hasP_mem.1 hin
        have hu : Un x 1 p := hep ▸ hur _ (ents_pfx he0)
        obtain ⟨L1, F1, r', e, hk, hg⟩ := cut_spec hp r fuel L F ro n hrh hi.right hr hrs hin
        obtain ⟨h1, h2⟩ := Mm.kid (p' := x) (v' := w) (f' := f) hi (.inr ⟨rfl, rfl, rfl⟩) hk
        simp only [hu.sd, show ¬ ((1 : Int) = 0) by omega, decide_true, decide_false, cond_true, cond_false]
        rw [e]
        simp only [getI_nat (h1.trans hi.ok.1), Int.toNat_natCast]
        obtain ⟨F2, t', e2, k2, hw', he, hq⟩ := tidy_spec h2 hii hrs ro n hx hl hg.wf hul (fun q h => hur q (hg.un q h))
        refine ⟨_, F2, t', e2, k2.more (by simp only [Tr.ht]; omega), hw', ?_, fun q h => ?_⟩
        · rw [he]
          simp only [Tr.ents]
          rw [hhd, outP_append, hg.ents, outP_same (A := l.ents) (fun e he q => ((hul _ (ents_pfx he)).ls hu).ne q)]
        · have := hq q h
          simp only [Tr.pfx, List.mem_cons, List.mem_append] at this ⊢
          rcases this with h | h | h
          · exact .inl h
          · exact .inr (.inl h)
          · exact .inr (.inr (hg.un q h))

/-! ### What stands above, what below -/

def abP (p : TPrefix) (l : List TEntry) : List TEntry := l.filter fun e => F34_addr_Covers e.P p
def beP (p : TPrefix) (l : List TEntry) : List TEntry := l.filter fun e => F34_addr_Covers p e.P

theorem abP_append {p : TPrefix} {A B : List TEntry} : abP p (A ++ B) = abP p A ++ abP p B := by simp [abP]
theorem abP_none {p : TPrefix} {A : List TEntry} (h : ∀ x ∈ A, F34_addr_Covers x.P p = false) : abP p A = [] := by
  unfold abP
  rw [List.filter_eq_nil_iff]
  intro x hx
  simp [h x hx]
theorem beP_append {p : TPrefix} {A B : List TEntry} : beP p (A ++ B) = beP p A ++ beP p B := by simp [beP]
theorem beP_none {p : TPrefix} {A : List TEntry} (h : ∀ x ∈ A, F34_addr_Covers p x.P = false) : beP p A = [] := by
  unfold beP
  rw [List.filter_eq_nil_iff]
  intro x hx
  simp [h x hx]

theorem cov_false {p q : TPrefix} (hp : InK .u32 p.A) (hq : InK .u32 q.A) (h : ¬ C p q) : F34_addr_Covers p q = false :=
  Bool.eq_false_iff.2 fun g => h ((covers_C hp hq).1 g)

def outD (X : Except (List TEntry) (Int × List TEntry)) : List TEntry := match X with
  | .error r => r
  | .ok (_, r) => r

theorem down_spec {p : TPrefix} (hp : InK .u32 p.A) (T : TTrie) : ∀ (t : Tr) (fuel : Nat) (row : List TEntry), t.ht < fuel → t.Ok T.l → t.Wf → row.length + t.ht < 1099511627776 →
    ∃ X, F36_trie_Trie_down_l1 T p fuel t.root row = some X ∧ outD X = row ++ abP p t.ents
  | .nil, 0, _, h, _, _, _ => absurd h (by omega)
  | .nil, fuel + 1, row, _, _, _, _ => by
    unfold F36_trie_Trie_down_l1
    simp only [root_nil, decide_true, cond_true]
    exact ⟨_, rfl, by simp [outD, Tr.ents, abP]⟩
  | .nd i x w f l r, 0, _, h, _, _, _ => absurd h (by omega)
  | .nd i x w f l r, fuel + 1, row, hf, ho, hw, hs => by
    have hall := wf_C hw
    have hV := wf_V hw
    obtain ⟨hx, hl, hr, hul, hur, hff⟩ := hw
    simp only [Tr.ht] at hf hs
    have hrl : row.length < 1099511627776 := by omega
    unfold F36_trie_Trie_down_l1
    simp only [root_nd, nat_ne, decide_false, cond_false, getI_nat ho.1]
    by_cases hc : C x p
    · have hcb : F34_addr_Covers x p = true := (covers_C hx.inK hp).2 hc
      simp only [hcb, cond_true]
      have e37 : F37_trie_Trie_Above_1 ⟨x, w, f, ⟨l.root, r.root⟩⟩ row = some (row ++ (bif f then [(⟨x, w⟩ : TEntry)] else [])) := by
        unfold F37_trie_Trie_Above_1
        cases f
        · simp
        · simp only [cond_true, hrl, decide_true]
      have hab : abP p (bif f then [(⟨x, w⟩ : TEntry)] else []) = (bif f then [(⟨x, w⟩ : TEntry)] else []) := by
        cases f
        · rfl
        · simp [abP, hcb]
      have hlen : (row ++ (bif f then [(⟨x, w⟩ : TEntry)] else [])).length ≤ row.length + 1 := by cases f <;> simp
      rw [e37]
      simp only
      by_cases hN : x.N = p.N
      · simp only [hN, decide_true, cond_true]
        refine ⟨_, rfl, ?_⟩
        have hnone : ∀ e ∈ l.ents ++ r.ents, F34_addr_Covers e.P p = false := by
          intro e he
          have hq : x.N < e.P.N ∧ V e.P := by
            rcases List.mem_append.1 he with he | he
            · exact ⟨(hul _ (ents_pfx he)).lt, (hul _ (ents_pfx he)).c.right⟩
            · exact ⟨(hur _ (ents_pfx he)).lt, (hur _ (ents_pfx he)).c.right⟩
          refine cov_false hq.2.inK hp fun g => ?_
          have := g.le; omega
        simp only [outD, Tr.ents]
        rw [abP_append, hab, abP_none hnone, List.append_nil]
      · have hlt : x.N < p.N := by have := hc.le; omega
        simp only [hN, decide_false, cond_false]
        have hu : Un x (F43_trie_side x p) p := ⟨hc, hlt, rfl⟩
        rcases side01 x p hx hc.right (by have := hc.right.le; omega) with hsd | hsd
        · rw [hsd] at hu
          simp only [hsd, decide_true, cond_true]
          obtain ⟨X, e, h⟩ := down_spec hp T l fuel (row ++ (bif f then [(⟨x, w⟩ : TEntry)] else [])) (by omega) ho.2.1 hl (by omega)
          refine ⟨X, e, ?_⟩
          have hnone : ∀ e ∈ r.ents, F34_addr_Covers e.P p = false := fun e he => cov_false (hur _ (ents_pfx he)).c.right.inK hp (hu.apart (hur _ (ents_pfx he))).2
          rw [h]
          simp only [Tr.ents]
          rw [abP_append, abP_append, hab, abP_none hnone, List.append_nil, List.append_assoc]
        · rw [hsd] at hu
          simp only [hsd, show ¬ ((1 : Int) = 0) by omega, decide_true, decide_false, cond_true, cond_false]
          obtain ⟨X, e, h⟩ := down_spec hp T r fuel (row ++ (bif f then [(⟨x, w⟩ : TEntry)] else [])) (by omega) ho.2.2 hr (by omega)
          refine ⟨X, e, ?_⟩
          have hnone : ∀ e ∈ l.ents, F34_addr_Covers e.P p = false := fun e he => cov_false (hul _ (ents_pfx he)).c.right.inK hp ((hul _ (ents_pfx he)).apart hu).1
          rw [h]
          simp only [Tr.ents]
          rw [abP_append, abP_append, hab, abP_none hnone, List.nil_append, List.append_assoc]
    · simp only [cov_false hx.inK hp hc, cond_false]
      refine ⟨_, rfl, ?_⟩
      have hnone : ∀ e ∈ (Tr.nd i x w f l r).ents, F34_addr_Covers e.P p = false := by
        intro e he
        exact cov_false (hV _ (ents_pfx he)).inK hp fun g => hc ((hall _ (ents_pfx he)).trans g)
      rw [abP_none hnone, List.append_nil]
      rfl

theorem below_spec {p : TPrefix} (hp : V p) (T : TTrie) : ∀ (t : Tr) (fuel : Nat) (row : List TEntry), t.ht < fuel → t.Ok T.l → t.Wf → row.length + t.ents.length < 1099511627776 →
    F33_trie_Trie_Below_1 fuel t.root T p row = some (row ++ beP p t.ents)
  | .nil, 0, _, h, _, _, _ => absurd h (by omega)
  | .nil, fuel + 1, row, _, _, _, _ => by
    unfold F33_trie_Trie_Below_1
    simp only [root_nil, decide_true, cond_true]
    simp [Tr.ents, beP]
  | .nd i x w f l r, 0, _, h, _, _, _ => absurd h (by omega)
  | .nd i x w f l r, fuel + 1, row, hf, ho, hw, hs => by
    have hall := wf_C hw
    have hV := wf_V hw
    obtain ⟨hx, hl, hr, hul, hur, hff⟩ := hw
    simp only [Tr.ht] at hf
    unfold F33_trie_Trie_Below_1
    simp only [root_nd, nat_ne, decide_false, cond_false, getI_nat ho.1]
    have hbl : (beP p l.ents).length ≤ l.ents.length := List.length_filter_le _ _
    simp only [Tr.ents, List.length_append] at hs
    have both : ∀ row' : List TEntry, row'.length + (l.ents.length + r.ents.length) < 1099511627776 →
        (match F33_trie_Trie_Below_1 fuel l.root T p row' with
          | none => none
          | some c46 => F33_trie_Trie_Below_1 fuel r.root T p c46) = some (row' ++ (beP p l.ents ++ beP p r.ents)) := by
      intro row' h
      rw [below_spec hp T l fuel row' (by omega) ho.2.1 hl (by omega)]
      simp only
      rw [below_spec hp T r fuel _ (by omega) ho.2.2 hr (by rw [List.length_append]; omega), List.append_assoc]
    by_cases hc : C p x
    · have hcb : F34_addr_Covers p x = true := (covers_C hp.inK hx.inK).2 hc
      cases f
      · simp only [cond_false, hcb, cond_true]
        refine (both row (by simp only [cond_false, List.length_nil] at hs; omega)).trans ?_
        simp only [Tr.ents, cond_false, List.nil_append]
        rw [beP_append]
      · simp only [cond_true, hcb]
        simp only [cond_true, List.length_cons, List.length_nil] at hs
        have hrl : row.length < 1099511627776 := by omega
        simp only [hrl, decide_true, cond_true]
        refine (both _ (by simp only [List.length_append, List.length_cons, List.length_nil]; omega)).trans ?_
        simp only [Tr.ents, cond_true]
        rw [beP_append, beP_append, List.append_assoc]
        simp [beP, hcb]
    · have hcb : F34_addr_Covers p x = false := cov_false hp.inK hx.inK hc
      have hhd : beP p (bif f then [(⟨x, w⟩ : TEntry)] else []) = [] := by cases f <;> simp [beP, hcb]
      by_cases hc2 : C x p
      · have hcb2 : F34_addr_Covers x p = true := (covers_C hx.inK hp.inK).2 hc2
        have hfin := both row (by omega)
        have hrhs : beP p (Tr.nd i x w f l r).ents = beP p l.ents ++ beP p r.ents := by
          simp only [Tr.ents]
          rw [beP_append, hhd, List.nil_append, beP_append]
        rw [hrhs]
        cases f
        · simp only [cond_false, cond_true, hcb, hcb2]; exact hfin
        · simp only [cond_false, cond_true, hcb, hcb2]; exact hfin
      · have hcb2 : F34_addr_Covers x p = false := cov_false hx.inK hp.inK hc2
        have hnone : ∀ e ∈ (Tr.nd i x w f l r).ents, F34_addr_Covers p e.P = false := by
          intro e he
          refine cov_false hp.inK (hV _ (ents_pfx he)).inK fun g => ?_
          have hxe := hall _ (ents_pfx he)
          by_cases hle : p.N ≤ x.N
          · exact hc (g.comp hxe hle)
          · exact hc2 (hxe.comp g (by omega))
        rw [beP_none hnone, List.append_nil]
        cases f
        · simp only [cond_false, cond_true, hcb, hcb2]
        · simp only [cond_false, cond_true, hcb, hcb2]

end Go.Proofs.Ytakallenldpkiaa.Abs
