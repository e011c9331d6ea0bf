/- The trie as a tree in memory: what is written, taken and given back. Plain law: no program in sight. -/
import Derived.Test.YtakallenldpkiaaL2
set_option linter.unusedVariables false
set_option linter.unusedSimpArgs false
namespace Go.Proofs.Ytakallenldpkiaa.Abs
open Go

inductive Tr where
  | nil
  | nd (i : Nat) (p : TPrefix) (v : Int) (f : Bool) (l r : Tr)

namespace Tr
def root : Tr → Int
  | nil => -1
  | nd i _ _ _ _ _ => i
def ids : Tr → List Nat
  | nil => []
  | nd i _ _ _ l r => i :: (l.ids ++ r.ids)
def pfx : Tr → List TPrefix
  | nil => []
  | nd _ p _ _ l r => p :: (l.pfx ++ r.pfx)
def ents : Tr → List TEntry
  | nil => []
  | nd _ p v f l r => (bif f then [⟨p, v⟩] else []) ++ (l.ents ++ r.ents)
def ht : Tr → Nat
  | nil => 0
  | nd _ _ _ _ l r => max l.ht r.ht + 1
/-- It stands in memory. -/
def Ok (L : List TNode) : Tr → Prop
  | nil => True
  | nd i p v f l r => L[i]? = some ⟨p, v, f, ⟨l.root, r.root⟩⟩ ∧ l.Ok L ∧ r.Ok L
/-- It is laid as a trie is. -/
def Wf : Tr → Prop
  | nil => True
  | nd _ p _ f l r => V p ∧ l.Wf ∧ r.Wf ∧ (∀ q ∈ l.pfx, Un p 0 q) ∧ (∀ q ∈ r.pfx, Un p 1 q) ∧ (f = false → l ≠ nil ∧ r ≠ nil)
end Tr

theorem root_ge (t : Tr) : -1 ≤ t.root := by cases t <;> simp only [Tr.root] <;> omega

theorem ok_lt {L : List TNode} : ∀ {t : Tr}, t.Ok L → ∀ j ∈ t.ids, j < L.length
  | .nil, _, j, hj => by cases hj
  | .nd i p v f l r, h, j, hj => by
    obtain ⟨h1, h2, h3⟩ := h
    simp only [Tr.ids, List.mem_cons, List.mem_append] at hj
    rcases hj with rfl | hj | hj
    · exact (List.getElem?_eq_some_iff.1 h1).1
    · exact ok_lt h2 j hj
    · exact ok_lt h3 j hj

theorem ok_frame {L L' : List TNode} : ∀ {t : Tr}, (∀ j ∈ t.ids, L'[j]? = L[j]?) → t.Ok L → t.Ok L'
  | .nil, _, _ => trivial
  | .nd i p v f l r, h, ⟨h1, h2, h3⟩ => by
    simp only [Tr.ids, List.mem_cons, List.mem_append] at h
    exact ⟨(h i (.inl rfl)).trans h1, ok_frame (fun j hj => h j (.inr (.inl hj))) h2, ok_frame (fun j hj => h j (.inr (.inr hj))) h3⟩

/-! ### Memory -/

def fr (F : List Int) : List Nat := F.map Int.toNat

structure FO (L : List TNode) (F : List Int) : Prop where
  nd : (fr F).Nodup
  fv : ∀ f ∈ F, 0 ≤ f ∧ f.toNat < L.length

structure TInv (L : List TNode) (F : List Int) (t : Tr) : Prop where
  ok : t.Ok L
  idn : t.ids.Nodup
  dis : ∀ j ∈ t.ids, j ∉ fr F
  fo : FO L F

structure Mm (b : Nat) (L : List TNode) (F : List Int) (t : Tr) (L' : List TNode) (F' : List Int) (t' : Tr) : Prop where
  inv : TInv L' F' t'
  lo : L.length ≤ L'.length
  sz : L'.length + F'.length ≤ L.length + F.length + b
  new : ∀ j ∈ t'.ids, j ∈ t.ids ∨ j ∈ fr F ∨ L.length ≤ j
  sub : ∀ k ∈ fr F', k ∈ fr F ∨ k ∈ t.ids
  keep : ∀ k, k < L.length → k ∉ t.ids → k ∉ fr F → L'[k]? = L[k]?

structure AddR (L : List TNode) (F : List Int) (L' : List TNode) (F' : List Int) (j : Nat) (x : TNode) : Prop where
  at_ : L'[j]? = some x
  lo : L.length ≤ L'.length
  sz : L'.length + F'.length ≤ L.length + F.length + 1
  new : j ∈ fr F ∨ L.length ≤ j
  sub : ∀ k ∈ fr F', k ∈ fr F
  out : j ∉ fr F'
  fo : FO L' F'
  keep : ∀ k, k < L.length → k ≠ j → L'[k]? = L[k]?

theorem inv_nil {L : List TNode} {F : List Int} (h : FO L F) : TInv L F .nil := ⟨trivial, List.nodup_nil, fun _ h => by simp [Tr.ids] at h, h⟩

theorem add_spec (L : List TNode) (F : List Int) (ro n : Int) (x : TNode) (h : FO L F) (hs : L.length + F.length < 1099511627776) :
    ∃ (j : Nat) (L' : List TNode) (F' : List Int), F41_trie_Trie_add ⟨L, F, ro, n⟩ x = some ((j : Int), ⟨L', F', ro, n⟩) ∧ AddR L F L' F' j x := by
  unfold F41_trie_Trie_add
  by_cases hF : F = []
  · subst hF
    have e1 : ¬ ((0 : Int) < (([] : List Int).length : Int)) := by simp
    have e2 : L.length < 1099511627776 := by omega
    simp only [e1, e2, decide_true, decide_false, cond_true, cond_false]
    refine ⟨L.length, L ++ [x], [], ?_, ?_⟩
    · rw [wi64 (by simp only [List.length_append, List.length_cons, List.length_nil]; omega) (by simp only [List.length_append, List.length_cons, List.length_nil]; omega)]
      simp
    · refine ⟨by simp, by simp, by simp, .inr (Nat.le_refl _), fun k hk => hk, by simp [fr], ⟨h.nd, fun f hf => by cases hf⟩, fun k hk hj => ?_⟩
      rw [List.getElem?_append_left hk]
  · have hl : 0 < F.length := List.length_pos_iff.2 hF
    have e1 : (0 : Int) < (F.length : Int) := by omega
    have ew : IntKind.i64.wrap ((F.length : Int) - 1) = ((F.length - 1 : Nat) : Int) := by rw [wi64 (by omega) (by omega)]; omega
    obtain ⟨G, y, rfl⟩ : ∃ G y, F = G ++ [y] := ⟨F.dropLast, F.getLast hF, (List.dropLast_concat_getLast hF).symm⟩
    simp only [e1, decide_true, cond_true, ew]
    have el : (G ++ [y]).length - 1 = G.length := by simp
    have eg : getI (G ++ [y]) (((G ++ [y]).length - 1 : Nat) : Int) = some y := by
      unfold getI
      rw [if_pos (by omega), el]
      simp
    have e2 : (0 : Int) ≤ (((G ++ [y]).length - 1 : Nat) : Int) := by omega
    have e3 : ((((G ++ [y]).length - 1 : Nat) : Int)) ≤ ((G ++ [y]).length : Int) := by omega
    simp only [eg, e2, e3, decide_true, cond_true]
    obtain ⟨hy0, hy1⟩ := h.fv y (by simp)
    have eL : getI L y = some (L[y.toNat]'hy1) := by
      unfold getI
      rw [if_pos hy0, List.getElem?_eq_getElem hy1]
    simp only [eL]
    have et : (G ++ [y]).take (((G ++ [y]).length - 1 : Nat) : Int).toNat = G := by
      rw [show ((((G ++ [y]).length - 1 : Nat) : Int)).toNat = G.length by omega]
      simp
    rw [et]
    have hnd := h.nd
    simp only [fr, List.map_append, List.map_cons, List.map_nil, List.nodup_append, List.mem_singleton] at hnd
    refine ⟨y.toNat, L.set y.toNat x, G, ?_, ?_⟩
    · rw [Int.toNat_of_nonneg hy0]
    · refine ⟨by simp [hy1], by simp, by simp; omega, .inl (by simp [fr]), fun k hk => by simp only [fr, List.map_append, List.mem_append]; exact .inl hk, fun hk => ?_, ⟨hnd.1, fun f hf => ?_⟩, fun k hk hj => ?_⟩
      · exact hnd.2.2 _ hk _ rfl rfl
      · rw [List.length_set]; exact h.fv f (by simp [hf])
      · rw [List.getElem?_set_ne (Ne.symm hj)]

/-- Two trees apart, about to be joined. -/
structure Two (b : Nat) (L : List TNode) (F : List Int) (t : Tr) (L1 : List TNode) (F1 : List Int) (a c : Tr) : Prop where
  ia : TInv L1 F1 a
  ic : TInv L1 F1 c
  ap : ∀ j ∈ a.ids, j ∉ c.ids
  lo : L.length ≤ L1.length
  sz : L1.length + F1.length ≤ L.length + F.length + b
  new : ∀ j, j ∈ a.ids ∨ j ∈ c.ids → j ∈ t.ids ∨ j ∈ fr F ∨ L.length ≤ j
  sub : ∀ k ∈ fr F1, k ∈ fr F ∨ k ∈ t.ids
  keep : ∀ k, k < L.length → k ∉ t.ids → k ∉ fr F → L1[k]? = L[k]?

theorem Two.swap {b : Nat} {L : List TNode} {F : List Int} {t : Tr} {L1 : List TNode} {F1 : List Int} {a c : Tr} (h : Two b L F t L1 F1 a c) : Two b L F t L1 F1 c a :=
  ⟨h.ic, h.ia, fun j hj hk => h.ap j hk hj, h.lo, h.sz, fun j hj => h.new j hj.symm, h.sub, h.keep⟩

theorem Two.add {b : Nat} {L : List TNode} {F : List Int} {t : Tr} {L1 : List TNode} {F1 : List Int} {a c : Tr} (h : Two b L F t L1 F1 a c)
    {L2 : List TNode} {F2 : List Int} {j : Nat} {p : TPrefix} {v : Int} {f : Bool} (k : AddR L1 F1 L2 F2 j ⟨p, v, f, ⟨a.root, c.root⟩⟩) : Mm (b + 1) L F t L2 F2 (.nd j p v f a c) := by
  have hj : ∀ i, i ∈ a.ids ∨ i ∈ c.ids → i ≠ j ∧ i < L1.length := by
    intro i hi
    have hlt : i < L1.length := hi.elim (ok_lt h.ia.ok i) (ok_lt h.ic.ok i)
    refine ⟨?_, hlt⟩
    rintro rfl
    rcases k.new with hn | hn
    · exact hi.elim (fun q => h.ia.dis _ q hn) (fun q => h.ic.dis _ q hn)
    · omega
  have oa : a.Ok L2 := ok_frame (fun i hi => k.keep i (hj i (.inl hi)).2 (hj i (.inl hi)).1) h.ia.ok
  have oc : c.Ok L2 := ok_frame (fun i hi => k.keep i (hj i (.inr hi)).2 (hj i (.inr hi)).1) h.ic.ok
  refine ⟨⟨⟨k.at_, oa, oc⟩, ?_, ?_, k.fo⟩, Nat.le_trans h.lo k.lo, by have := k.sz; have := h.sz; omega, ?_, fun i hi => h.sub i (k.sub i hi), ?_⟩
  · simp only [Tr.ids, List.nodup_cons, List.mem_append, List.nodup_append]
    refine ⟨fun hi => (hj _ hi).1 rfl, h.ia.idn, h.ic.idn, fun x hx y hy e => ?_⟩
    subst e
    exact h.ap x hx hy
  · intro i hi
    simp only [Tr.ids, List.mem_cons, List.mem_append] at hi
    rcases hi with rfl | hi | hi
    · exact k.out
    · exact fun q => h.ia.dis i hi (k.sub i q)
    · exact fun q => h.ic.dis i hi (k.sub i q)
  · intro i hi
    simp only [Tr.ids, List.mem_cons, List.mem_append] at hi
    rcases hi with rfl | hi
    · rcases k.new with hn | hn
      · rcases h.sub _ hn with q | q
        · exact .inr (.inl q)
        · exact .inl q
      · exact .inr (.inr (Nat.le_trans h.lo hn))
    · exact h.new i hi
  · intro i h1 h2 h3
    have hij : i ≠ j := by
      rintro rfl
      rcases k.new with hn | hn
      · rcases h.sub _ hn with q | q
        · exact h3 q
        · exact h2 q
      · have := h.lo; omega
    rw [k.keep i (Nat.lt_of_lt_of_le h1 h.lo) hij, h.keep i h1 h2 h3]

/-- A leaf beside a tree. -/
theorem AddR.two {L : List TNode} {F : List Int} {L1 : List TNode} {F1 : List Int} {j : Nat} {p : TPrefix} {v : Int} {f : Bool} {t : Tr} (h : TInv L F t)
    (k : AddR L F L1 F1 j ⟨p, v, f, ⟨-1, -1⟩⟩) : Two 1 L F t L1 F1 (.nd j p v f .nil .nil) t := by
  have hj : ∀ i ∈ t.ids, i ≠ j := by
    rintro i hi rfl
    rcases k.new with hn | hn
    · exact h.dis _ hi hn
    · have := ok_lt h.ok _ hi; omega
  refine ⟨⟨⟨k.at_, trivial, trivial⟩, by simp [Tr.ids], ?_, k.fo⟩, ⟨ok_frame (fun i hi => k.keep i (ok_lt h.ok i hi) (hj i hi)) h.ok, h.idn, fun i hi q => h.dis i hi (k.sub i q), k.fo⟩, ?_, k.lo, k.sz, ?_, fun i hi => .inl (k.sub i hi), ?_⟩
  · intro i hi
    simp only [Tr.ids, List.append_nil, List.mem_singleton] at hi
    subst hi; exact k.out
  · intro i hi
    simp only [Tr.ids, List.append_nil, List.mem_singleton] at hi
    subst hi
    exact fun q => hj _ q rfl
  · intro i hi
    rcases hi with hi | hi
    · simp only [Tr.ids, List.append_nil, List.mem_singleton] at hi
      subst hi
      exact k.new.elim (fun q => .inr (.inl q)) (fun q => .inr (.inr q))
    · exact .inl hi
  · intro i h1 h2 h3
    refine k.keep i h1 ?_
    rintro rfl
    rcases k.new with hn | hn
    · exact h3 hn
    · omega

theorem two_nil {L : List TNode} {F : List Int} {t : Tr} (h : TInv L F t) : Two 0 L F t L F t .nil :=
  ⟨h, inv_nil h.fo, fun j _ => by simp [Tr.ids], Nat.le_refl _, by omega, fun j hj => hj.elim .inl (fun q => by simp [Tr.ids] at q), fun k hk => .inl hk, fun _ _ _ _ => rfl⟩

theorem Mm.refl {L : List TNode} {F : List Int} {t : Tr} (h : TInv L F t) : Mm 0 L F t L F t :=
  ⟨h, Nat.le_refl _, by omega, fun j hj => .inl hj, fun k hk => .inl hk, fun _ _ _ _ => rfl⟩

theorem TInv.left {L : List TNode} {F : List Int} {i : Nat} {p : TPrefix} {v : Int} {f : Bool} {l r : Tr} (h : TInv L F (.nd i p v f l r)) : TInv L F l := by
  have hn := h.idn
  simp only [Tr.ids, List.nodup_cons, List.nodup_append] at hn
  exact ⟨h.ok.2.1, hn.2.1, fun j hj => h.dis j (by simp [Tr.ids, hj]), h.fo⟩
theorem TInv.right {L : List TNode} {F : List Int} {i : Nat} {p : TPrefix} {v : Int} {f : Bool} {l r : Tr} (h : TInv L F (.nd i p v f l r)) : TInv L F r := by
  have hn := h.idn
  simp only [Tr.ids, List.nodup_cons, List.nodup_append] at hn
  exact ⟨h.ok.2.2, hn.2.2.1, fun j hj => h.dis j (by simp [Tr.ids, hj]), h.fo⟩

/-- A child was changed: its parent is written. -/
theorem Mm.kid {b : Nat} {L : List TNode} {F : List Int} {L1 : List TNode} {F1 : List Int} {i : Nat} {p p' : TPrefix} {v v' : Int} {f f' : Bool} {l r a c : Tr} {t t' : Tr}
    (h : TInv L F (.nd i p v f l r)) (hc : (t = l ∧ c = r ∧ a = t') ∨ (t = r ∧ a = l ∧ c = t')) (k : Mm b L F t L1 F1 t') :
    L1[i]? = L[i]? ∧ Mm b L F (.nd i p v f l r) (L1.set i ⟨p', v', f', ⟨a.root, c.root⟩⟩) F1 (.nd i p' v' f' a c) := by
  have hn := h.idn
  simp only [Tr.ids, List.nodup_cons, List.nodup_append, List.mem_append, not_or] at hn
  obtain ⟨⟨hil, hir⟩, hnl, hnr, hlr⟩ := hn
  have hi : i < L.length := ok_lt h.ok i (by simp [Tr.ids])
  have hiF : i ∉ fr F := h.dis i (by simp [Tr.ids])
  have hit : i ∉ t.ids := by rcases hc with ⟨rfl, _, _⟩ | ⟨rfl, _, _⟩ <;> assumption
  have hi1 : L1[i]? = L[i]? := k.keep i hi hit hiF
  have hiL : i < L1.length := Nat.lt_of_lt_of_le hi k.lo
  refine ⟨hi1, ?_⟩
  -- what is not changed
  have hid : i ∉ t'.ids := by
    intro q
    rcases k.new i q with q | q | q
    · exact hit q
    · exact hiF q
    · omega
  -- the other one
  have other : ∀ o : Tr, TInv L F o → (∀ j ∈ o.ids, j ∉ t.ids) → i ∉ o.ids → o.Ok (L1.set i ⟨p', v', f', ⟨a.root, c.root⟩⟩) ∧ (∀ j ∈ o.ids, j ∉ t'.ids) ∧ (∀ j ∈ o.ids, j ∉ fr F1) := by
    intro o ho hot hio
    refine ⟨ok_frame (fun j hj => ?_) ho.ok, fun j hj q => ?_, fun j hj q => ?_⟩
    · rw [List.getElem?_set_ne (by rintro rfl; exact hio hj)]
      exact k.keep j (ok_lt ho.ok j hj) (hot j hj) (ho.dis j hj)
    · rcases k.new j q with q | q | q
      · exact hot j hj q
      · exact ho.dis j hj q
      · have := ok_lt ho.ok j hj; omega
    · rcases k.sub j q with q | q
      · exact ho.dis j hj q
      · exact hot j hj q
  have ot' : t'.Ok (L1.set i ⟨p', v', f', ⟨a.root, c.root⟩⟩) := ok_frame (fun j hj => by rw [List.getElem?_set_ne (by rintro rfl; exact hid hj)]) k.inv.ok
  have hset : (L1.set i (⟨p', v', f', ⟨a.root, c.root⟩⟩ : TNode))[i]? = some ⟨p', v', f', ⟨a.root, c.root⟩⟩ := by simp [hiL]
  have hiF1 : i ∉ fr F1 := by
    intro q
    rcases k.sub i q with q | q
    · exact hiF q
    · exact hit q
  have fo : FO (L1.set i ⟨p', v', f', ⟨a.root, c.root⟩⟩) F1 := ⟨k.inv.fo.nd, fun g hg => by rw [List.length_set]; exact k.inv.fo.fv g hg⟩
  have hsub : ∀ j ∈ fr F1, j ∈ fr F ∨ j ∈ (Tr.nd i p v f l r).ids := by
    intro j hj
    rcases k.sub j hj with q | q
    · exact .inl q
    · right
      simp only [Tr.ids, List.mem_cons, List.mem_append]
      rcases hc with ⟨rfl, _, _⟩ | ⟨rfl, _, _⟩
      · exact .inr (.inl q)
      · exact .inr (.inr q)
  have hkeep : ∀ j, j < L.length → j ∉ (Tr.nd i p v f l r).ids → j ∉ fr F → (L1.set i ⟨p', v', f', ⟨a.root, c.root⟩⟩)[j]? = L[j]? := by
    intro j h1 h2 h3
    simp only [Tr.ids, List.mem_cons, List.mem_append, not_or] at h2
    rw [List.getElem?_set_ne (Ne.symm h2.1)]
    refine k.keep j h1 ?_ h3
    rcases hc with ⟨rfl, _, _⟩ | ⟨rfl, _, _⟩
    · exact h2.2.1
    · exact h2.2.2
  have hnew : ∀ j ∈ t'.ids, j ∈ (Tr.nd i p v f l r).ids ∨ j ∈ fr F ∨ L.length ≤ j := by
    intro j hj
    rcases k.new j hj with q | q
    · left
      simp only [Tr.ids, List.mem_cons, List.mem_append]
      rcases hc with ⟨rfl, _, _⟩ | ⟨rfl, _, _⟩
      · exact .inr (.inl q)
      · exact .inr (.inr q)
    · exact .inr q
  rcases hc with ⟨rfl, rfl, rfl⟩ | ⟨rfl, rfl, rfl⟩
  · obtain ⟨oo, oa, of⟩ := other c h.right (fun j hj q => hlr j q j hj rfl) hir
    refine ⟨⟨⟨hset, ot', oo⟩, ?_, ?_, fo⟩, by rw [List.length_set]; exact k.lo, by rw [List.length_set]; exact k.sz, ?_, hsub, hkeep⟩
    · simp only [Tr.ids, List.nodup_cons, List.nodup_append, List.mem_append, not_or]
      exact ⟨⟨hid, hir⟩, k.inv.idn, hnr, fun x hx y hy e => oa y hy (e ▸ hx)⟩
    · intro j hj
      simp only [Tr.ids, List.mem_cons, List.mem_append] at hj
      rcases hj with rfl | hj | hj
      · exact hiF1
      · exact k.inv.dis j hj
      · exact of j hj
    · intro j hj
      simp only [Tr.ids, List.mem_cons, List.mem_append] at hj
      rcases hj with rfl | hj | hj
      · exact .inl (by simp [Tr.ids])
      · exact hnew j hj
      · exact .inl (by simp [Tr.ids, hj])
  · obtain ⟨oo, oa, of⟩ := other a h.left (fun j hj q => hlr j hj j q rfl) hil
    refine ⟨⟨⟨hset, oo, ot'⟩, ?_, ?_, fo⟩, by rw [List.length_set]; exact k.lo, by rw [List.length_set]; exact k.sz, ?_, hsub, hkeep⟩
    · simp only [Tr.ids, List.nodup_cons, List.nodup_append, List.mem_append, not_or]
      exact ⟨⟨hil, hid⟩, hnl, k.inv.idn, fun x hx y hy e => oa x hx (e ▸ hy)⟩
    · intro j hj
      simp only [Tr.ids, List.mem_cons, List.mem_append] at hj
      rcases hj with rfl | hj | hj
      · exact hiF1
      · exact of j hj
      · exact k.inv.dis j hj
    · intro j hj
      simp only [Tr.ids, List.mem_cons, List.mem_append] at hj
      rcases hj with rfl | hj | hj
      · exact .inl (by simp [Tr.ids])
      · exact .inl (by simp [Tr.ids, hj])
      · exact hnew j hj

/-- A node is given back; its only child stays. -/
theorem Mm.drop {b : Nat} {L : List TNode} {F : List Int} {L1 : List TNode} {F1 : List Int} {i : Nat} {p : TPrefix} {v : Int} {f : Bool} {a c : Tr} {t : Tr}
    (k : Mm b L F t L1 F1 (.nd i p v f a c)) (hit : i ∈ t.ids) : Mm (b + 1) L F t L1 (F1 ++ [(i : Int)]) a ∧ Mm (b + 1) L F t L1 (F1 ++ [(i : Int)]) c := by
  have hn := k.inv.idn
  simp only [Tr.ids, List.nodup_cons, List.nodup_append, List.mem_append, not_or] at hn
  obtain ⟨⟨hil, hir⟩, hnl, hnr, hlr⟩ := hn
  have e : fr (F1 ++ [(i : Int)]) = fr F1 ++ [i] := by simp [fr]
  have fo : FO L1 (F1 ++ [(i : Int)]) := by
    refine ⟨?_, fun g hg => ?_⟩
    · rw [e, List.nodup_append]
      refine ⟨k.inv.fo.nd, by simp, fun x hx y hy q => ?_⟩
      simp only [List.mem_singleton] at hy
      subst q hy
      exact k.inv.dis _ (by simp [Tr.ids]) hx
    · rcases List.mem_append.1 hg with q | q
      · exact k.inv.fo.fv g q
      · simp only [List.mem_singleton] at q
        subst q
        have := ok_lt k.inv.ok i (by simp [Tr.ids])
        omega
  have gen : ∀ o : Tr, TInv L1 F1 o → (∀ j ∈ o.ids, j ∈ (Tr.nd i p v f a c).ids) → i ∉ o.ids → Mm (b + 1) L F t L1 (F1 ++ [(i : Int)]) o := by
    intro o ho hs hio
    refine ⟨⟨ho.ok, ho.idn, fun j hj q => ?_, fo⟩, k.lo, by have := k.sz; simp only [List.length_append, List.length_cons, List.length_nil]; omega, fun j hj => k.new j (hs j hj), fun j hj => ?_, k.keep⟩
    · rw [e, List.mem_append, List.mem_singleton] at q
      rcases q with q | rfl
      · exact ho.dis j hj q
      · exact hio hj
    · rw [e, List.mem_append, List.mem_singleton] at hj
      rcases hj with q | rfl
      · exact k.sub j q
      · exact .inr hit
  exact ⟨gen a k.inv.left (fun j hj => by simp [Tr.ids, hj]) hil, gen c k.inv.right (fun j hj => by simp [Tr.ids, hj]) hir⟩

theorem Mm.more {b b' : Nat} {L : List TNode} {F : List Int} {t : Tr} {L' : List TNode} {F' : List Int} {t' : Tr} (h : Mm b L F t L' F' t') (hb : b ≤ b') : Mm b' L F t L' F' t' :=
  ⟨h.inv, h.lo, by have := h.sz; omega, h.new, h.sub, h.keep⟩

end Go.Proofs.Ytakallenldpkiaa.Abs
