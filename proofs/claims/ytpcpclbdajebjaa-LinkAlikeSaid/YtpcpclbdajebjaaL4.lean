/- LinkAlike, of the Lean functions. Plain law: no program in sight. -/
import Derived.Test.YtpcpclbdajebjaaL3
set_option linter.unusedVariables false
set_option linter.unusedSimpArgs false
namespace Go.Proofs.Ytpcpclbdajebjaa.Abs
open Go

/-! ### The one of an ID -/
def getI (L : List TLsp) (id : Int) : Option TLsp := L.find? fun x => decide (x.ID = id)

theorem getI_some {L : List TLsp} (h : SrtI TLsp.ID L) {id : Int} {y : TLsp} : getI L id = some y ↔ y ∈ L ∧ y.ID = id := by
  constructor
  · intro e
    exact ⟨List.mem_of_find?_eq_some e, by simpa using List.find?_some e⟩
  · rintro ⟨h1, h2⟩
    subst h2
    exact find_mem h h1
theorem getI_none {L : List TLsp} {id : Int} : getI L id = none ↔ ∀ y ∈ L, y.ID ≠ id := by
  unfold getI
  rw [List.find?_eq_none]
  simp
theorem getI_ext {L M : List TLsp} (h : SrtI TLsp.ID L) {id : Int} {o : Option TLsp} (h1 : ∀ y, o = some y → y ∈ L ∧ y.ID = id) (h2 : o = none → ∀ y ∈ L, y.ID ≠ id) : getI L id = o := by
  cases o with
  | none => exact getI_none.2 (h2 rfl)
  | some y => exact (getI_some h).2 (h1 y rfl)

def updI (o : Option TLsp) (x : TLsp) : Option TLsp := match o with
  | none => some x
  | some y => if F8_link_Compare (entOf x) (entOf y) = 1 then some x else some y
theorem updI_idem (o : Option TLsp) (x : TLsp) : updI (updI o x) x = updI o x := by
  cases o with
  | none => simp [updI, compare_self]
  | some y =>
    by_cases hc : F8_link_Compare (entOf x) (entOf y) = 1
    · simp [updI, hc, compare_self]
    · simp [updI, hc]

theorem put_get {b : TBase} {x : TLsp} (hs : SrtI TLsp.ID b.L) (hsm : SmB b) (h : F48_link_Base_isOf b x = true) (hr : (b.L.length : Int) < b.Max) :
    (∀ id, getI (F21_link_Put b x).1.L id = if id = x.ID then updI (getI b.L id) x else getI b.L id) ∧ (F21_link_Put b x).1.L.length ≤ b.L.length + 1 ∧ (F21_link_Put b x).1.Over = b.Over := by
  obtain ⟨s1, _, _⟩ := put_srt (x := x) hs hsm
  by_cases hf : ∃ y ∈ b.L, y.ID = x.ID
  · obtain ⟨y, hy, he⟩ := hf
    obtain ⟨k, k1, k2, k3, k4⟩ := put_found hs hsm h hy he
    have hgy : getI b.L x.ID = some y := (getI_some hs).2 ⟨hy, he⟩
    by_cases hc : F8_link_Compare (entOf x) (entOf y) = 1
    · rw [if_pos hc] at k4
      rw [k4] at s1 ⊢
      refine ⟨fun id => ?_, by simp, rfl⟩
      show getI (b.L.set k x) id = _
      by_cases e : id = x.ID
      · subst e
        rw [if_pos rfl, hgy]
        simp only [updI, hc, if_true]
        exact (getI_some s1).2 ⟨List.mem_set k1 x, rfl⟩
      · rw [if_neg e]
        refine getI_ext (M := []) s1 (fun z hz => ?_) (fun hz z hm => ?_)
        · obtain ⟨z1, z2⟩ := (getI_some hs).1 hz
          refine ⟨?_, z2⟩
          obtain ⟨j, hj, rfl⟩ := List.getElem_of_mem z1
          have hjk : j ≠ k := fun ej => by
            subst ej
            rw [List.getD_eq_getElem?_getD, List.getElem?_eq_getElem hj] at k2
            simp at k2
            rw [k2] at z2
            exact e (z2.symm.trans he)
          have : (b.L.set k x)[j]? = some b.L[j] := by
            rw [List.getElem?_set, if_neg (fun e => hjk e.symm), List.getElem?_eq_getElem hj]
          exact List.mem_of_getElem? this
        · rcases List.mem_or_eq_of_mem_set hm with h1 | h1
          · exact getI_none.1 hz z h1
          · rw [h1]; exact fun e' => e e'.symm
    · rw [if_neg hc] at k4
      rw [k4]
      refine ⟨fun id => ?_, Nat.le_succ _, rfl⟩
      show getI b.L id = _
      by_cases e : id = x.ID
      · subst e
        rw [if_pos rfl, hgy]
        simp only [updI, hc, if_false]
      · rw [if_neg e]
  · obtain ⟨k, k3, k4⟩ := put_none hs hsm h hf
    rw [if_neg (by omega)] at k4
    rw [k4] at s1 ⊢
    have hmem : ∀ z, z ∈ b.L.take k ++ [x] ++ b.L.drop k ↔ z = x ∨ z ∈ b.L := by
      intro z
      conv => rhs; rw [← List.take_append_drop k b.L]
      simp only [List.mem_append, List.mem_singleton]
      constructor
      · rintro ((h | h) | h)
        · exact .inr (.inl h)
        · exact .inl h
        · exact .inr (.inr h)
      · rintro (h | h | h)
        · exact .inl (.inr h)
        · exact .inl (.inl h)
        · exact .inr h
    refine ⟨fun id => ?_, ?_, rfl⟩
    · show getI (b.L.take k ++ [x] ++ b.L.drop k) id = _
      by_cases e : id = x.ID
      · subst e
        have hg : getI b.L x.ID = none := getI_none.2 fun y hy he => hf ⟨y, hy, he⟩
        rw [if_pos rfl, hg]
        exact (getI_some s1).2 ⟨(hmem x).2 (.inl rfl), rfl⟩
      · rw [if_neg e]
        refine getI_ext (M := []) s1 (fun z hz => ?_) (fun hz z hm => ?_)
        · obtain ⟨z1, z2⟩ := (getI_some hs).1 hz
          exact ⟨(hmem z).2 (.inr z1), z2⟩
        · rcases (hmem z).1 hm with h1 | h1
          · rw [h1]; exact fun e' => e e'.symm
          · exact getI_none.1 hz z h1
    · have := k3.le
      show (b.L.take k ++ [x] ++ b.L.drop k).length ≤ b.L.length + 1
      simp
      omega

/-! ### What one base gives another -/
def gvn (o : Option TLsp) (f : Option TLsp) : Option TLsp := match f with
  | none => o
  | some x => updI o x

theorem gives_get {from_ : TBase} (hf : SrtI TLsp.ID from_.L) (hfs : SmB from_) : ∀ (l : List Int) (to : TBase), SrtI TLsp.ID to.L → SmB to → to.Max = 1000 → to.L.length + l.length < 1000 → (∀ y ∈ from_.L, F53_crossroadsref23_mayLsp y to.Level = true) →
    SrtI TLsp.ID (F19_crossroadslaw23_gives_l1 from_ to l).L ∧ SmB (F19_crossroadslaw23_gives_l1 from_ to l) ∧ (F19_crossroadslaw23_gives_l1 from_ to l).Max = 1000 ∧ (F19_crossroadslaw23_gives_l1 from_ to l).Level = to.Level ∧ (F19_crossroadslaw23_gives_l1 from_ to l).Over = to.Over ∧
      (F19_crossroadslaw23_gives_l1 from_ to l).L.length ≤ to.L.length + l.length ∧ ∀ id, getI (F19_crossroadslaw23_gives_l1 from_ to l).L id = if id ∈ l then gvn (getI to.L id) (getI from_.L id) else getI to.L id
  | [], to, h1, h2, h3, h4, h5 => by
    unfold F19_crossroadslaw23_gives_l1
    exact ⟨h1, h2, h3, rfl, rfl, by simp, fun id => by simp⟩
  | i :: l, to, h1, h2, h3, h4, h5 => by
    unfold F19_crossroadslaw23_gives_l1
    simp only [List.length_cons] at h4
    have hfd := find_eq hf hfs i
    have hget : ∀ (o : Option TLsp) (x : TLsp), gvn (updI o x) (some x) = updI o x := fun o x => updI_idem o x
    cases e : getI from_.L i with
    | none =>
      have e' : from_.L.find? (fun x => decide (x.ID = i)) = none := e
      rw [hfd, e']
      simp only [cond_false]
      obtain ⟨g1, g2, g3, g4, g5, g6, g7⟩ := gives_get hf hfs l to h1 h2 h3 (by omega) h5
      refine ⟨g1, g2, g3, g4, g5, by simp only [List.length_cons]; omega, fun id => ?_⟩
      rw [g7 id]
      by_cases hi : id = i
      · subst hi
        rw [if_pos List.mem_cons_self, e]
        simp [gvn]
      · by_cases hm : id ∈ l
        · rw [if_pos hm, if_pos (List.mem_cons_of_mem _ hm)]
        · rw [if_neg hm, if_neg (by simp [hi, hm])]
    | some x =>
      have e' : from_.L.find? (fun x => decide (x.ID = i)) = some x := e
      obtain ⟨hx, hxi⟩ := (getI_some hf).1 e
      rw [hfd, e']
      simp only [cond_true]
      have hxs := hfs.all x hx
      have hof : F48_link_Base_isOf to x = true := by rw [isOf_eq hxs]; exact h5 x hx
      obtain ⟨p1, p2, p3⟩ := put_get h1 h2 hof (by omega)
      obtain ⟨s1, s2, s3⟩ := put_srt (x := x) h1 h2
      have s4 := (post_Put to x h2 (by omega) hxs).1
      generalize F21_link_Put to x = r at p1 p2 p3 s1 s2 s3 s4
      obtain ⟨c, u, v⟩ := r
      dsimp only at p1 p2 p3 s1 s2 s3 s4 ⊢
      obtain ⟨g1, g2, g3, g4, g5, g6, g7⟩ := gives_get hf hfs l c s1 s4 (by omega) (by omega) (by rw [s2]; exact h5)
      refine ⟨g1, g2, g3, g4.trans s2, g5.trans p3, by simp only [List.length_cons]; omega, fun id => ?_⟩
      rw [g7 id, p1 id]
      subst hxi
      by_cases hi : id = x.ID
      · subst hi
        rw [if_pos rfl, if_pos List.mem_cons_self, e]
        show (if x.ID ∈ l then gvn (updI (getI to.L x.ID) x) (some x) else updI (getI to.L x.ID) x) = updI (getI to.L x.ID) x
        rw [hget]
        simp
      · rw [if_neg hi]
        by_cases hm : id ∈ l
        · rw [if_pos hm, if_pos (List.mem_cons_of_mem _ hm)]
        · rw [if_neg hm, if_neg (by simp [hi, hm])]

/-! ### What is to be sent -/
theorem l3_told (b : TBase) : ∀ (l : List TEntry) (told : List (Int × TEntry)) (ask : List TEntry) (q : Int), findM (F18_link_Differ_l3 b told ask l).1 q = match findM told q with | some v => some v | none => l.find? (fun e => decide (e.ID = q))
  | [], told, ask, q => by
    unfold F18_link_Differ_l3
    cases findM told q <;> rfl
  | e :: l, told, ask, q => by
    unfold F18_link_Differ_l3
    have ih := l3_told b l
    have hset : ∀ ask', findM (F18_link_Differ_l3 b (setM told e.ID e) ask' l).1 q = if q = e.ID then some e else match findM told q with | some v => some v | none => l.find? (fun e => decide (e.ID = q)) := by
      intro ask'
      rw [ih, findM_set]
      by_cases h : q = e.ID
      · simp [h]
      · simp only [if_neg h]
    cases hm : (findM told e.ID).isSome with
    | true =>
      simp only [cond_true]
      rw [ih]
      cases hq : findM told q with
      | some v => rfl
      | none =>
        have : ¬ e.ID = q := fun h => by rw [h, hq] at hm; cases hm
        simp [this]
    | false =>
      simp only [cond_false]
      have hne : findM told e.ID = none := by simpa using hm
      have hfin : (if q = e.ID then some e else match findM told q with | some v => some v | none => l.find? (fun e => decide (e.ID = q))) = match findM told q with | some v => some v | none => (e :: l).find? (fun e => decide (e.ID = q)) := by
        by_cases h : q = e.ID
        · rw [if_pos h, h, hne]; simp
        · rw [if_neg h]
          have : ¬ e.ID = q := fun e' => h e'.symm
          cases findM told q <;> simp [this]
      rw [← hfin]
      generalize F47_link_Find b e.ID = r
      obtain ⟨y, is⟩ := r
      cases is <;> simp only [cond_true, cond_false]
      · cases decide (e.Life = 0) <;> simp only [cond_true, cond_false, hset]
      · cases decide (e.Life = 0) <;> simp only [cond_true, cond_false, hset]
        generalize decide (0 < F8_link_Compare e (F14_link_Entry y)) = c
        cases c <;> simp only [cond_true, cond_false, hset]

def sendC (x : TList) (told : List (Int × TEntry)) (e : TEntry) : Bool := match findM told e.ID with
  | some v => decide (0 < F8_link_Compare e v)
  | none => x.Whole && (decide (x.Low ≤ e.ID) && decide (e.ID ≤ x.High))
theorem l2_send (x : TList) (told : List (Int × TEntry)) : ∀ (l : List TEntry) (send : List Int), F18_link_Differ_l2 x told send l = send ++ (l.filter (sendC x told)).map (·.ID)
  | [], send => by simp [F18_link_Differ_l2]
  | e :: l, send => by
    unfold F18_link_Differ_l2
    simp only [l2_send x told l]
    rw [List.filter_cons]
    cases hm : findM told e.ID with
    | some v =>
      simp only [sendC, hm, Option.isSome_some, Option.getD_some, cond_true]
      by_cases h : 0 < F8_link_Compare e v <;> simp [h]
    | none =>
      simp only [sendC, hm, Option.isSome_none, cond_false]
      cases x.Whole <;> by_cases h1 : x.Low ≤ e.ID <;> by_cases h2 : e.ID ≤ x.High <;> simp [h1, h2]

def rngB (b : TBase) : Prop := ∀ x ∈ b.L, 0 ≤ x.ID ∧ x.ID ≤ 18446744073709551615
theorem list_all {b : TBase} (h : rngB b) : F17_link_List b 0 18446744073709551615 = b.L.map entOf := by
  rw [list_is, List.filter_eq_self.2]
  intro x hx
  exact decide_eq_true (h x hx)

theorem send_mem {a b : TBase} (ha : rngB a) (hb : rngB b) {x : TList} (hx : x.L = F17_link_List a 0 18446744073709551615) (hw : x.Whole = true) (hlo : x.Low = 0) (hhi : x.High = 18446744073709551615) {id : Int} {y : TLsp} (hy : getI b.L id = some y)
    (hs : match getI a.L id with | none => True | some z => 0 < F8_link_Compare (entOf y) (entOf z)) : id ∈ (F18_link_Differ b x).1 := by
  unfold F18_link_Differ
  rw [hx, list_all ha, list_all hb]
  have ht := l3_told b (a.L.map entOf) [] []
  generalize F18_link_Differ_l3 b [] [] (a.L.map entOf) = r at ht
  obtain ⟨t, ask⟩ := r
  dsimp only at ht ⊢
  rw [l2_send, List.nil_append, List.mem_map]
  have hm := List.mem_of_find?_eq_some hy
  have he : y.ID = id := by simpa using List.find?_some hy
  refine ⟨entOf y, List.mem_filter.2 ⟨List.mem_map.2 ⟨y, hm, rfl⟩, ?_⟩, he⟩
  have htq : findM t id = (getI a.L id).map entOf := by
    rw [ht id]
    show (a.L.map entOf).find? (fun e => decide (e.ID = id)) = _
    rw [List.find?_map]
    rfl
  have hid : (entOf y).ID = id := he
  unfold sendC
  rw [hid, htq]
  cases hg : getI a.L id with
  | none =>
    have := hb y hm
    rw [he] at this
    simp [hw, hlo, hhi, this]
  | some z =>
    rw [hg] at hs
    simpa using hs

theorem given_all {a b p : TBase} {s w : List Int} (hg : ∀ id, getI p.L id = if id ∈ w then gvn (if id ∈ s then gvn (getI a.L id) (getI b.L id) else getI a.L id) (getI b.L id) else (if id ∈ s then gvn (getI a.L id) (getI b.L id) else getI a.L id))
    (hs : ∀ id y, getI b.L id = some y → (match getI a.L id with | none => True | some z => 0 < F8_link_Compare (entOf y) (entOf z)) → id ∈ s) (id : Int) : getI p.L id = gvn (getI a.L id) (getI b.L id) := by
  have h1 : (if id ∈ s then gvn (getI a.L id) (getI b.L id) else getI a.L id) = gvn (getI a.L id) (getI b.L id) := by
    split
    · rfl
    · rename_i hn
      cases hb : getI b.L id with
      | none => rfl
      | some y =>
        cases ha : getI a.L id with
        | none => exact absurd (hs id y hb (by rw [ha]; trivial)) hn
        | some z =>
          have hc : ¬ 0 < F8_link_Compare (entOf y) (entOf z) := fun hc => hn (hs id y hb (by rw [ha]; exact hc))
          show some z = updI (some z) y
          simp only [updI]
          rw [if_neg (by omega)]
  rw [hg id, h1]
  split
  · cases hb : getI b.L id with
    | none => rfl
    | some y => exact updI_idem _ _
  · rfl

theorem sorted_ext : ∀ {l m : List Int}, l.Pairwise (· < ·) → m.Pairwise (· < ·) → (∀ x, x ∈ l ↔ x ∈ m) → l = m
  | [], [], _, _, _ => rfl
  | [], y :: m, _, _, h => by have := (h y).2 List.mem_cons_self; cases this
  | x :: l, [], _, _, h => by have := (h x).1 List.mem_cons_self; cases this
  | x :: l, y :: m, hl, hm, h => by
    obtain ⟨l1, l2⟩ := List.pairwise_cons.1 hl
    obtain ⟨m1, m2⟩ := List.pairwise_cons.1 hm
    have hxy : x = y := by
      rcases List.mem_cons.1 ((h x).1 List.mem_cons_self) with h1 | h1
      · exact h1
      · rcases List.mem_cons.1 ((h y).2 List.mem_cons_self) with h2 | h2
        · exact h2.symm
        · have a1 := m1 x h1
          have a2 := l1 y h2
          omega
    subst hxy
    congr 1
    refine sorted_ext l2 m2 fun z => ?_
    have hz := h z
    simp only [List.mem_cons] at hz
    constructor
    · intro hzl
      rcases hz.1 (.inr hzl) with e | e
      · subst e; exact absurd (l1 z hzl) (Int.lt_irrefl z)
      · exact e
    · intro hzm
      rcases hz.2 (.inr hzm) with e | e
      · subst e; exact absurd (m1 z hzm) (Int.lt_irrefl z)
      · exact e

theorem alike_l1 (k : List TEntry) : ∀ (l : List TEntry) (i : Nat), (∀ j e, l[j]? = some e → ∃ f, k[i + j]? = some f ∧ e.ID = f.ID ∧ F8_link_Compare e f = 0) → F5_crossroadslaw23_LinkAlike_l1 k i l = .ok ()
  | [], i, h => by unfold F5_crossroadslaw23_LinkAlike_l1; rfl
  | e :: l, i, h => by
    unfold F5_crossroadslaw23_LinkAlike_l1
    obtain ⟨f, f1, f2, f3⟩ := h 0 e rfl
    rw [Nat.add_zero] at f1
    have hg : k.getD i default = f := by rw [List.getD_eq_getElem?_getD, f1]; rfl
    simp only [hg, f2, f3, decide_true, cond_true]
    refine alike_l1 k l (i + 1) fun j e he => ?_
    obtain ⟨f, f1, f2, f3⟩ := h (j + 1) e (by simpa using he)
    exact ⟨f, by rw [show i + 1 + j = i + (j + 1) by omega]; exact f1, f2, f3⟩

theorem gvn_none (o f : Option TLsp) : gvn o f = none ↔ o = none ∧ f = none := by
  cases f with
  | none => simp [gvn]
  | some x =>
    cases o with
    | none => simp [gvn, updI]
    | some y => simp only [gvn, updI]; split <;> simp

theorem gvn_swap {o f : Option TLsp} {x y : TLsp} (h1 : gvn o f = some x) (h2 : gvn f o = some y) : F8_link_Compare (entOf x) (entOf y) = 0 := by
  cases o with
  | none =>
    cases f with
    | none => simp [gvn] at h1
    | some v =>
      simp only [gvn, updI, Option.some.injEq] at h1 h2
      rw [← h1, ← h2]
      exact compare_self _
  | some u =>
    cases f with
    | none =>
      simp only [gvn, updI, Option.some.injEq] at h1 h2
      rw [← h1, ← h2]
      exact compare_self _
    | some v =>
      simp only [gvn, updI] at h1 h2
      have hsw := compare_swap (entOf u) (entOf v)
      have hr := compare_rng (entOf u) (entOf v)
      split at h1 <;> split at h2 <;> (injection h1 with h1; injection h2 with h2; subst h1 h2) <;> first
        | exact compare_self _
        | omega

theorem alike_end {p q a b : TBase} (hp : SrtI TLsp.ID p.L) (hq : SrtI TLsp.ID q.L) (gp : ∀ id, getI p.L id = gvn (getI a.L id) (getI b.L id)) (gq : ∀ id, getI q.L id = gvn (getI b.L id) (getI a.L id)) (ra : rngB a) (rb : rngB b) (ha : SrtI TLsp.ID a.L) (hb : SrtI TLsp.ID b.L) :
    (F17_link_List p 0 18446744073709551615).length = (F17_link_List q 0 18446744073709551615).length ∧ F5_crossroadslaw23_LinkAlike_l1 (F17_link_List q 0 18446744073709551615) 0 (F17_link_List p 0 18446744073709551615) = .ok () := by
  have from_ab : ∀ (o f : Option TLsp) (x : TLsp), gvn o f = some x → o = some x ∨ f = some x := by
    intro o f x h
    cases f with
    | none => exact .inl h
    | some y =>
      cases o with
      | none => simp only [gvn, updI, Option.some.injEq] at h; exact .inr (by rw [h])
      | some z =>
        simp only [gvn, updI] at h
        split at h
        · exact .inr h
        · exact .inl h
  have rp : rngB p := fun x hx => by
    have h1 := (getI_some hp).2 ⟨hx, rfl⟩
    rw [gp] at h1
    rcases from_ab _ _ _ h1 with h2 | h2
    · exact ra x ((getI_some ha).1 h2).1
    · exact rb x ((getI_some hb).1 h2).1
  have rq : rngB q := fun x hx => by
    have h1 := (getI_some hq).2 ⟨hx, rfl⟩
    rw [gq] at h1
    rcases from_ab _ _ _ h1 with h2 | h2
    · exact rb x ((getI_some hb).1 h2).1
    · exact ra x ((getI_some ha).1 h2).1
  have hids : p.L.map TLsp.ID = q.L.map TLsp.ID := by
    refine sorted_ext (by rw [List.pairwise_map]; exact hp) (by rw [List.pairwise_map]; exact hq) fun id => ?_
    have key : ∀ {c : TBase}, SrtI TLsp.ID c.L → (id ∈ c.L.map TLsp.ID ↔ getI c.L id ≠ none) := by
      intro c hc
      rw [List.mem_map]
      constructor
      · rintro ⟨x, hx, he⟩ hn
        exact getI_none.1 hn x hx he
      · intro hn
        obtain ⟨x, hx⟩ := Option.ne_none_iff_exists'.1 hn
        exact ⟨x, (getI_some hc).1 hx⟩
    rw [key hp, key hq, gp, gq, ne_eq, ne_eq, gvn_none, gvn_none, and_comm]
  rw [list_all rp, list_all rq]
  have hlen : p.L.length = q.L.length := by
    have := congrArg List.length hids
    simpa using this
  refine ⟨by simpa using hlen, alike_l1 _ _ 0 fun j e he => ?_⟩
  rw [List.getElem?_map] at he
  obtain ⟨x, hx, rfl⟩ := Option.map_eq_some_iff.1 he
  have hj : j < p.L.length := (List.getElem?_eq_some_iff.1 hx).1
  have hj' : j < q.L.length := by omega
  have hid : x.ID = q.L[j].ID := by
    have := congrArg (fun l => l[j]?) hids
    simp only [List.getElem?_map, hx, List.getElem?_eq_getElem hj', Option.map_some, Option.some.injEq] at this
    exact this
  refine ⟨entOf q.L[j], by simp [List.getElem?_map, List.getElem?_eq_getElem hj'], hid, ?_⟩
  have h1 := (getI_some hp).2 ⟨List.mem_of_getElem? hx, rfl⟩
  have h2 := (getI_some hq).2 ⟨List.getElem_mem hj', rfl⟩
  rw [gp] at h1
  rw [gq, ← hid] at h2
  exact gvn_swap h1 h2

theorem linkAlike_true (a b : TBase) (h0 : TBase.ok a) (h1 : TBase.ok b) : F5_crossroadslaw23_LinkAlike a b = true := by
  unfold F5_crossroadslaw23_LinkAlike
  cases ha : F16_crossroadslaw23_small a with
  | false => simp only [cond_false, alive_true]
  | true =>
    cases hb : F16_crossroadslaw23_small b with
    | false => simp only [cond_true, cond_false, alive_true]
    | true =>
      by_cases hl : a.Level = b.Level
      · simp only [hl, decide_true, cond_true]
        have ia := inv_small ha
        have ib := inv_small hb
        obtain ⟨na, _⟩ := small_l1 a.L 0 (by omega) (small_ok ha).1
        obtain ⟨nb, _⟩ := small_l1 b.L 0 (by omega) (small_ok hb).1
        have rng : ∀ {c : TBase}, TBase.ok c → ∀ x ∈ c.L, 0 ≤ x.ID ∧ x.ID ≤ 18446744073709551615 := by
          intro c hc x hx
          have hx' : InK .u64 x.ID := by
            have : TLsp.ok x := by
              unfold TBase.ok at hc
              first | exact hc.2.2 x hx | exact hc.2.2.1 x hx | exact hc.1 x hx
            unfold TLsp.ok at this
            exact this.2.2.1
          obtain ⟨u1, u2⟩ := hx'
          rw [show IntKind.u64.min = 0 by decide] at u1
          rw [show IntKind.u64.max = 18446744073709551615 by decide] at u2
          exact ⟨u1, u2⟩
        have ra : rngB ⟨b.Level, 1000, a.L, a.Over⟩ := fun x hx => rng h0 x hx
        have rb : rngB ⟨b.Level, 1000, b.L, b.Over⟩ := fun x hx => rng h1 x hx
        have sa : SmB ⟨b.Level, 1000, a.L, a.Over⟩ := ia.sm.ini _ _ _
        have sb : SmB ⟨b.Level, 1000, b.L, b.Over⟩ := ib.sm.ini _ _ _
        have oka : ∀ y ∈ a.L, F53_crossroadsref23_mayLsp y b.Level = true := fun y hy => hl ▸ ia.ok y hy
        generalize hAd : (⟨b.Level, 1000, a.L, a.Over⟩ : TBase) = A at *
        generalize hBd : (⟨b.Level, 1000, b.L, b.Over⟩ : TBase) = B at *
        have eA : A.L = a.L := by rw [← hAd]
        have eB : B.L = b.L := by rw [← hBd]
        have mA : A.Max = 1000 := by rw [← hAd]
        have mB : B.Max = 1000 := by rw [← hBd]
        have lA : A.Level = b.Level := by rw [← hAd]
        have lB : B.Level = b.Level := by rw [← hBd]
        have oA : A.Over = a.Over := by rw [← hAd]
        have oB : B.Over = b.Over := by rw [← hBd]
        have srA : SrtI TLsp.ID A.L := eA ▸ ia.srt
        have srB : SrtI TLsp.ID B.L := eB ▸ ib.srt
        have cA : A.L.length ≤ 60 := by rw [eA]; omega
        have cB : B.L.length ≤ 60 := by rw [eB]; omega
        have hsA := fun id y => send_mem (a := B) (b := A) rb ra (x := ⟨b.Level, true, 0, 0, 18446744073709551615, F17_link_List B 0 18446744073709551615⟩) rfl rfl rfl rfl (id := id) (y := y)
        have hsB := fun id y => send_mem (a := A) (b := B) ra rb (x := ⟨b.Level, true, 0, 0, 18446744073709551615, F17_link_List A 0 18446744073709551615⟩) rfl rfl rfl rfl (id := id) (y := y)
        have size : ∀ (c d : TBase), c.L.length ≤ 60 → d.L.length ≤ 60 → (F18_link_Differ c ⟨b.Level, true, 0, 0, 18446744073709551615, F17_link_List d 0 18446744073709551615⟩).1.length ≤ 60 ∧ (F18_link_Differ c ⟨b.Level, true, 0, 0, 18446744073709551615, F17_link_List d 0 18446744073709551615⟩).2.length ≤ 60 := by
          intro c d hc hd
          unfold F18_link_Differ
          have h1 := differ_l3 c (F17_link_List d 0 18446744073709551615) [] []
          have h3 := post_List d 0 18446744073709551615
          have h4 := post_List c 0 18446744073709551615
          dsimp only
          generalize F18_link_Differ_l3 c [] [] (F17_link_List d 0 18446744073709551615) = r at h1
          obtain ⟨told, ask⟩ := r
          have h2 := differ_l2 ⟨b.Level, true, 0, 0, 18446744073709551615, F17_link_List d 0 18446744073709551615⟩ told (F17_link_List c 0 18446744073709551615) []
          dsimp only at h1 h2 ⊢
          simp only [List.length_nil] at h1 h2
          omega
        obtain ⟨zA1, zA2⟩ := size A B cA cB
        obtain ⟨zB1, zB2⟩ := size B A cB cA
        generalize F18_link_Differ A ⟨b.Level, true, 0, 0, 18446744073709551615, F17_link_List B 0 18446744073709551615⟩ = dA at *
        generalize F18_link_Differ B ⟨b.Level, true, 0, 0, 18446744073709551615, F17_link_List A 0 18446744073709551615⟩ = dB at *
        obtain ⟨sendA, askA⟩ := dA
        obtain ⟨sendB, askB⟩ := dB
        dsimp only at zA1 zA2 zB1 zB2 hsA hsB ⊢
        have want : ∀ (l : List TEntry) (o : List Int), (F20_crossroadslaw23_wanted_l1 o l).length = o.length + l.length := by
          intro l
          induction l with
          | nil => intro o; unfold F20_crossroadslaw23_wanted_l1; rfl
          | cons e l ih => intro o; unfold F20_crossroadslaw23_wanted_l1; rw [ih]; simp; omega
        have wA : (F20_crossroadslaw23_wanted askA).length ≤ 60 := by unfold F20_crossroadslaw23_wanted; rw [want]; simpa using zA2
        have wB : (F20_crossroadslaw23_wanted askB).length ≤ 60 := by unfold F20_crossroadslaw23_wanted; rw [want]; simpa using zB2
        unfold F19_crossroadslaw23_gives
        obtain ⟨p1, p2, p3, p4, p5, p6, p7⟩ := gives_get srB sb sendB A srA sa mA (by omega) (by rw [lA, eB]; exact ib.ok)
        obtain ⟨r1, r2, r3, r4, r5, r6, r7⟩ := gives_get srB sb (F20_crossroadslaw23_wanted askA) _ p1 p2 p3 (by omega) (by rw [p4, lA, eB]; exact ib.ok)
        obtain ⟨q1, q2, q3, q4, q5, q6, q7⟩ := gives_get srA sa sendA B srB sb mB (by omega) (by rw [lB, eA]; exact oka)
        obtain ⟨t1, t2, t3, t4, t5, t6, t7⟩ := gives_get srA sa (F20_crossroadslaw23_wanted askB) _ q1 q2 q3 (by omega) (by rw [q4, lB, eA]; exact oka)
        have gp := given_all (a := A) (b := B) (p := F19_crossroadslaw23_gives_l1 B (F19_crossroadslaw23_gives_l1 B A sendB) (F20_crossroadslaw23_wanted askA)) (s := sendB) (w := F20_crossroadslaw23_wanted askA) (fun id => by rw [r7 id, p7 id]) (fun id y h1 h2 => hsB id y h1 h2)
        have gq := given_all (a := B) (b := A) (p := F19_crossroadslaw23_gives_l1 A (F19_crossroadslaw23_gives_l1 A B sendA) (F20_crossroadslaw23_wanted askB)) (s := sendA) (w := F20_crossroadslaw23_wanted askB) (fun id => by rw [t7 id, q7 id]) (fun id y h1 h2 => hsA id y h1 h2)
        obtain ⟨e1, e2⟩ := alike_end r1 t1 gp gq ra rb srA srB
        have e1' : ((F17_link_List (F19_crossroadslaw23_gives_l1 B (F19_crossroadslaw23_gives_l1 B A sendB) (F20_crossroadslaw23_wanted askA)) 0 18446744073709551615).length : Int) = ((F17_link_List (F19_crossroadslaw23_gives_l1 A (F19_crossroadslaw23_gives_l1 A B sendA) (F20_crossroadslaw23_wanted askB)) 0 18446744073709551615).length : Int) := by omega
        have ov1 := r5.trans (p5.trans oA)
        have ov2 := t5.trans (q5.trans oB)
        simp only [e1', e2, ov1, ov2, alive_true, decide_true, Bool.true_and, beq_self_eq_true, Bool.and_self]
      · simp only [hl, decide_false, cond_true, cond_false, alive_true]
end Go.Proofs.Ytpcpclbdajebjaa.Abs
