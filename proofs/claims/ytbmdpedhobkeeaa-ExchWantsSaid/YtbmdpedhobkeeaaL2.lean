/- ExchWants: plain law. No program in sight. -/
import Derived.Test.YtbmdpedhobkeeaaPu
import Derived.Test.YtbmdpedhobkeeaaTy
import Derived.Test.YtbmdpedhobkeeaaB3
import Derived.KernelRfl
set_option linter.unusedVariables false
set_option linter.unusedSimpArgs false
namespace Go.Proofs.Ytbmdpedhobkeeaa.Abs
open Go

theorem aliveW : F8_crossroadslaw17_alive = some true := by kernel_rfl

/-! ### Keys -/

def KeyOk (k : TKey) : Prop := 0 ≤ k.ID ∧ k.ID < 4294967296 ∧ 0 ≤ k.Adv ∧ k.Adv < 4294967296
def kf (k : TKey) : Int := (k.Typef * 4294967296 + k.ID) * 4294967296 + k.Adv

theorem u32r {x : Int} (h : InK .u32 x) : 0 ≤ x ∧ x < 4294967296 := by
  obtain ⟨h1, h2⟩ := h
  have e1 : IntKind.u32.min = 0 := by decide
  have e2 : IntKind.u32.max = 4294967295 := by decide
  rw [e1] at h1; rw [e2] at h2
  omega
theorem u8r {x : Int} (h : InK .u8 x) : 0 ≤ x ∧ x < 256 := by
  obtain ⟨h1, h2⟩ := h
  have e1 : IntKind.u8.min = 0 := by decide
  have e2 : IntKind.u8.max = 255 := by decide
  rw [e1] at h1; rw [e2] at h2
  omega
theorem keyOk {h : THeader} (ho : h.ok) : KeyOk (F38_crossroadsref11_Key h) := by
  obtain ⟨_, _, _, h4, h5, _⟩ := ho
  have := u32r h4; have := u32r h5
  unfold KeyOk F38_crossroadsref11_Key
  simp only; omega

theorem kf_inj {a b : TKey} (ha : KeyOk a) (hb : KeyOk b) (h : kf a = kf b) : a = b := by
  unfold KeyOk at *; unfold kf at h
  obtain ⟨at_, ai, aa⟩ := a
  obtain ⟨bt, bi, ba⟩ := b
  simp only at *
  have h1 : aa = ba := by omega
  have h2 : ai = bi := by omega
  have h3 : at_ = bt := by omega
  subst h1 h2 h3; rfl

theorem less_kf {a b : TKey} (ha : KeyOk a) (hb : KeyOk b) : F37_crossroadsref11_Less a b = decide (kf a < kf b) := by
  unfold KeyOk at *; unfold kf F37_crossroadsref11_Less
  by_cases h1 : a.Typef = b.Typef
  · simp only [h1, decide_true, cond_true]
    rw [Bool.eq_iff_iff]
    simp only [Bool.or_eq_true, Bool.and_eq_true, decide_eq_true_eq]
    constructor
    · rintro (h | ⟨h, h'⟩) <;> omega
    · intro h; by_cases h2 : a.ID < b.ID
      · exact .inl h2
      · exact .inr ⟨by omega, by omega⟩
  · simp only [h1, decide_false, cond_false]
    rw [Bool.eq_iff_iff]
    simp only [decide_eq_true_eq]
    constructor <;> intro h <;> omega

theorem cmp59 (x y : Int) : F59_cmp_Compare x y = sgnI x y := by
  unfold F59_cmp_Compare F77_cmp_isNaN sgnI
  simp only [decide_true, Bool.not_true, cond_false]
  by_cases h1 : x < y <;> by_cases h2 : y < x <;> simp [h1, h2]
theorem cmp82 (x y : Int) : F82_cmp_Compare x y = sgnI x y := by
  unfold F82_cmp_Compare F85_cmp_isNaN sgnI
  simp only [decide_true, Bool.not_true, cond_false]
  by_cases h1 : x < y <;> by_cases h2 : y < x <;> simp [h1, h2]
theorem cmp58 (x y : Int) : F58_cmp_Compare x y = sgnI x y := by
  unfold F58_cmp_Compare F76_cmp_isNaN sgnI
  simp only [decide_true, Bool.not_true, cond_false]
  by_cases h1 : x < y <;> by_cases h2 : y < x <;> simp [h1, h2]

theorem first3 (a b c : Int) : F57_lsa_first [a, b, c] = if a = 0 then (if b = 0 then c else b) else a := by
  unfold F57_lsa_first
  by_cases h1 : a = 0 <;> by_cases h2 : b = 0 <;> by_cases h3 : c = 0 <;> simp [F57_lsa_first_l1, h1, h2, h3]
theorem first4 (a b c d : Int) : F57_lsa_first [a, b, c, d] = if a = 0 then (if b = 0 then (if c = 0 then d else c) else b) else a := by
  unfold F57_lsa_first
  by_cases h1 : a = 0 <;> by_cases h2 : b = 0 <;> by_cases h3 : c = 0 <;> by_cases h4 : d = 0 <;> simp [F57_lsa_first_l1, h1, h2, h3, h4]

theorem less75 {a b : TKey} (ha : KeyOk a) (hb : KeyOk b) : F75_lsa_Less a b = decide (kf a < kf b) := by
  unfold KeyOk at *; unfold kf F75_lsa_Less
  simp only [cmp59, cmp82, first3]
  rw [Bool.eq_iff_iff]
  simp only [decide_eq_true_eq]
  unfold sgnI
  by_cases h1 : a.Typef < b.Typef
  · simp only [h1, if_true]; constructor <;> intro h <;> first | omega | (simp; done) | simp at h
  · by_cases h2 : b.Typef < a.Typef
    · simp only [h1, h2, if_true, if_false]; constructor <;> intro h <;> first | omega | simp at h
    · by_cases h3 : a.ID < b.ID
      · simp only [h1, h2, h3, if_true, if_false]; constructor <;> intro h <;> first | omega | simp
      · by_cases h4 : b.ID < a.ID
        · simp only [h1, h2, h3, h4, if_true, if_false]; constructor <;> intro h <;> first | omega | simp at h
        · by_cases h5 : a.Adv < b.Adv
          · simp only [h1, h2, h3, h4, h5, if_true, if_false]; constructor <;> intro h <;> first | omega | simp
          · by_cases h6 : b.Adv < a.Adv
            · simp only [h1, h2, h3, h4, h5, h6, if_true, if_false]; constructor <;> intro h <;> first | omega | simp at h
            · simp only [h1, h2, h3, h4, h5, h6, if_true, if_false]; constructor <;> intro h <;> first | omega | simp at h

theorem at74 {x : TAd} {k : TKey} (hx : KeyOk (F38_crossroadsref11_Key x.H)) (hk : KeyOk k) : F74_store_Store_at_1 x k = sgnI (kf (F38_crossroadsref11_Key x.H)) (kf k) := by
  have e : F40_lsa_Key x.H = F38_crossroadsref11_Key x.H := rfl
  unfold F74_store_Store_at_1
  simp only [e, less75 hx hk, less75 hk hx]
  unfold sgnI
  by_cases h1 : kf (F38_crossroadsref11_Key x.H) < kf k <;> by_cases h2 : kf k < kf (F38_crossroadsref11_Key x.H) <;> simp [h1, h2]

/-! ### A store whose keys rise -/

def gk (x : TAd) : Int := kf (F38_crossroadsref11_Key x.H)
structure StOk (s : TStore) : Prop where
  srt : s.L.Pairwise fun a b => gk a < gk b
  len : s.L.length ≤ 100
  ok : ∀ x ∈ s.L, KeyOk (F38_crossroadsref11_Key x.H)
  age : ∀ x ∈ s.L, 0 ≤ x.H.Age ∧ x.H.Age ≤ 3600

theorem getI_nat {α : Type} {L : List α} {i : Nat} {x : α} (h : L[i]? = some x) : getI L (i : Int) = some x := by
  unfold getI
  rw [if_pos (by omega)]
  simpa using h

theorem bs_l1 {s : TStore} (h : StOk s) {k : TKey} (hk : KeyOk k) : ∀ (fuel i j : Nat), i ≤ j → j ≤ s.L.length → j - i < 2 ^ fuel →
    (∀ a (ha : a < s.L.length), a < i → gk s.L[a] < kf k) → (∀ a (ha : a < s.L.length), j ≤ a → ¬ gk s.L[a] < kf k) →
    ∃ c : Nat, F73_slices_BinarySearchFunc_l1 s.L k (fun y0 y1 => F74_store_Store_at_1 y0 y1) (fuel + 1) (i : Int) (j : Int) = some ((c : Int), (c : Int)) ∧ c ≤ s.L.length ∧
      (∀ a (ha : a < s.L.length), a < c → gk s.L[a] < kf k) ∧ (∀ a (ha : a < s.L.length), c ≤ a → ¬ gk s.L[a] < kf k)
  | fuel, i, j, hij, hj, hf, hlo, hhi => by
    have hlen := h.len
    unfold F73_slices_BinarySearchFunc_l1
    by_cases hlt : i < j
    · have hlt' : (i : Int) < (j : Int) := by omega
      simp only [hlt', decide_true, cond_true]
      rw [mid_eq (by omega) (by omega) (by omega), show ((i : Int) + (j : Int)) / 2 = (((i + j) / 2 : Nat) : Int) by omega]
      have hm : (i + j) / 2 < s.L.length := by omega
      rw [getI_nat (List.getElem?_eq_getElem hm)]
      simp only [at74 (h.ok _ (List.getElem_mem hm)) hk]
      match fuel, hf with
      | 0, hf => omega
      | fuel + 1, hf =>
        have hf2 : j - i < 2 * 2 ^ fuel := by rw [Nat.pow_succ] at hf; omega
        by_cases hc : gk s.L[(i + j) / 2] < kf k
        · have hc' : sgnI (kf (F38_crossroadsref11_Key s.L[(i + j) / 2].H)) (kf k) < 0 := (sgnI_neg _ _).2 hc
          simp only [hc', decide_true, cond_true]
          rw [show IntKind.i64.wrap ((((i + j) / 2 : Nat) : Int) + 1) = (((i + j) / 2 + 1 : Nat) : Int) by rw [wi64 (by omega) (by omega)]; omega]
          refine bs_l1 h hk fuel ((i + j) / 2 + 1) j (by omega) hj (by omega) (fun a ha hai => ?_) hhi
          rcases Nat.lt_or_eq_of_le (Nat.le_of_lt_succ hai) with q | q
          · exact Int.lt_trans (List.pairwise_iff_getElem.1 h.srt a _ ha hm q) hc
          · subst q; exact hc
        · have hc' : ¬ sgnI (kf (F38_crossroadsref11_Key s.L[(i + j) / 2].H)) (kf k) < 0 := fun q => hc ((sgnI_neg _ _).1 q)
          simp only [hc', decide_false, cond_false]
          refine bs_l1 h hk fuel i ((i + j) / 2) (by omega) (by omega) (by omega) hlo (fun a ha hai => ?_)
          rcases Nat.lt_or_eq_of_le hai with q | q
          · have := List.pairwise_iff_getElem.1 h.srt _ a hm ha q
            intro q2; exact hc (Int.lt_trans this q2)
          · subst q; exact hc
    · have hlt' : ¬ (i : Int) < (j : Int) := by omega
      simp only [hlt', decide_false, cond_false]
      have : i = j := by omega
      subst this
      exact ⟨i, rfl, hj, hlo, hhi⟩

theorem keq (a b : TKey) : (decide (a.Typef = b.Typef) && (decide (a.ID = b.ID) && (decide (a.Adv = b.Adv) && true))) = decide (a = b) := by
  rw [Bool.eq_iff_iff]
  obtain ⟨_, _, _⟩ := a
  obtain ⟨_, _, _⟩ := b
  simp

def zAd : TAd := ⟨⟨0, 0, 0, 0, 0, 0, 0, 0⟩, []⟩
def fndW (L : List TAd) (k : TKey) : TAd × Bool := match L.find? fun x => decide (F38_crossroadsref11_Key x.H = k) with
  | some x => (x, true)
  | none => (zAd, false)

theorem find42 (s : TStore) (k : TKey) : F42_crossroadsref14_Find s k = fndW s.L k := by
  unfold F42_crossroadsref14_Find fndW
  have : ∀ l : List TAd, F42_crossroadsref14_Find_l1 k l = match l.find? fun x => decide (F38_crossroadsref11_Key x.H = k) with
      | some x => .error (x, true)
      | none => .ok () := by
    intro l
    induction l with
    | nil => rfl
    | cons x l ih =>
      rw [F42_crossroadsref14_Find_l1]
      simp only [keq]
      rw [ih, List.find?_cons]
      cases decide (F38_crossroadsref11_Key x.H = k) <;> rfl
  rw [this]
  cases s.L.find? (fun x => decide (F38_crossroadsref11_Key x.H = k)) <;> rfl

/-- The one of a key that is there. -/
theorem fndW_at {s : TStore} (h : StOk s) {k : TKey} (hk : KeyOk k) {c : Nat} (hc : c < s.L.length) (he : gk s.L[c] = kf k) : fndW s.L k = (s.L[c], true) := by
  have hkey : F38_crossroadsref11_Key s.L[c].H = k := kf_inj (h.ok _ (List.getElem_mem hc)) hk he
  have hf : s.L.find? (fun x => decide (F38_crossroadsref11_Key x.H = k)) = some s.L[c] := by
    rw [List.find?_eq_some_iff_getElem]
    refine ⟨by simpa using hkey, c, hc, rfl, fun j hj => ?_⟩
    have := List.pairwise_iff_getElem.1 h.srt j c (by omega) hc hj
    simp only [Bool.not_eq_true', decide_eq_false_iff_not]
    intro q
    have e : gk s.L[j] = kf k := by unfold gk; rw [q]
    omega
  unfold fndW
  rw [hf]

theorem find39 {s : TStore} (h : StOk s) {k : TKey} (hk : KeyOk k) : F39_store_Find s k = some (fndW s.L k) := by
  have hlen := h.len
  obtain ⟨c, e, h1, h2, h3⟩ := bs_l1 h hk 99 0 s.L.length (by omega) (Nat.le_refl _) (Nat.lt_of_le_of_lt (m := 100) (by omega) (by decide)) (fun a ha q => by omega) (fun a ha q => by omega)
  unfold F39_store_Find F56_store_Store_at F73_slices_BinarySearchFunc
  have e' : F73_slices_BinarySearchFunc_l1 s.L k (fun y0 y1 => F74_store_Store_at_1 y0 y1) 100 0 (s.L.length : Int) = some ((c : Int), (c : Int)) := e
  rw [e']
  simp only
  have hno : (∀ a (ha : a < s.L.length), gk s.L[a] ≠ kf k) → fndW s.L k = (zAd, false) := by
    intro hall
    unfold fndW
    have : s.L.find? (fun x => decide (F38_crossroadsref11_Key x.H = k)) = none := by
      rw [List.find?_eq_none]
      intro x hx q
      obtain ⟨a, ha, rfl⟩ := List.getElem_of_mem hx
      simp only [decide_eq_true_eq] at q
      exact hall a ha (by unfold gk; rw [q])
    rw [this]
  by_cases hc : c < s.L.length
  · have hc' : (c : Int) < (s.L.length : Int) := by omega
    simp only [hc', decide_true, cond_true]
    rw [getI_nat (List.getElem?_eq_getElem hc)]
    simp only [at74 (h.ok _ (List.getElem_mem hc)) hk, sgnI_zero]
    by_cases he : gk s.L[c] = kf k
    · have he' : kf (F38_crossroadsref11_Key s.L[c].H) = kf k := he
      simp only [he', decide_true, cond_true]
      rw [getI_nat (List.getElem?_eq_getElem hc), fndW_at h hk hc he]
    · have he' : ¬ kf (F38_crossroadsref11_Key s.L[c].H) = kf k := he
      simp only [he', decide_false, cond_false]
      rw [hno (fun a ha q => ?_)]
      · rfl
      · have h4 := h3 c hc (Nat.le_refl _)
        rcases Nat.lt_trichotomy a c with g | g | g
        · have := h2 a ha g; omega
        · subst g; exact he q
        · have := List.pairwise_iff_getElem.1 h.srt c a hc ha g
          omega
  · have hc' : ¬ (c : Int) < (s.L.length : Int) := by omega
    simp only [hc', decide_false, cond_false]
    rw [hno (fun a ha q => ?_)]
    · rfl
    · have := h2 a ha (by omega); omega

/-! ### Compare -/

theorem comp_eq {a b : THeader} (ha : 0 ≤ a.Age ∧ a.Age ≤ 3600) (hb : 0 ≤ b.Age ∧ b.Age ≤ 3600) : F41_lsa_Compare a b = F43_crossroadsref11_Compare a b := by
  unfold F41_lsa_Compare F43_crossroadsref11_Compare F61_lsa_younger F60_lsa_old F78_lsa_isIn F62_crossroadsref11_more
  simp only [cmp58, cmp59, first4]
  rw [wi64 (x := a.Age - b.Age) (by omega) (by omega), wi64 (x := b.Age + 900) (by omega) (by omega), wi64 (x := a.Age + 900) (by omega) (by omega)]
  generalize IntKind.i32.wrap a.Seq = p
  generalize IntKind.i32.wrap b.Seq = q
  unfold sgnI
  by_cases h1 : p = q
  · subst h1
    simp only [Int.lt_irrefl, if_false, if_true, decide_true, cond_true]
    by_cases h2 : a.Sum = b.Sum
    · simp only [h2, Int.lt_irrefl, if_false, if_true, decide_true, cond_true]
      by_cases h3 : a.Age = 3600 <;> by_cases h4 : b.Age = 3600
      · simp [h3, h4, wi64]
      · have h5 : ¬ (3600 < b.Age) := by omega
        simp [h3, h4, wi64]
      · simp [h3, h4, wi64]
      · have e0 : IntKind.i64.wrap 0 = 0 := by decide
        simp only [h3, h4, decide_false, cond_false, Int.sub_self, e0, if_true, beq_self_eq_true, cond_true]
        by_cases h5 : b.Age + 900 < a.Age
        · have h6 : ¬ (a.Age - b.Age ≤ 900) := by omega
          have h7 : ¬ (a.Age < b.Age) := by omega
          have h8 : b.Age < a.Age := by omega
          simp [h5, h6, h7, h8]
        · by_cases h6 : a.Age + 900 < b.Age
          · have h7 : ¬ (-900 ≤ a.Age - b.Age) := by omega
            have h8 : a.Age < b.Age := by omega
            have h9 : ¬ b.Age < a.Age := by omega
            simp [h5, h6, h7, h8, h9]
          · have h7 : -900 ≤ a.Age - b.Age := by omega
            have h8 : a.Age - b.Age ≤ 900 := by omega
            simp [h5, h6, h7, h8]
    · simp only [h2, decide_false, cond_false]
      by_cases h3 : a.Sum < b.Sum
      · have : ¬ b.Sum < a.Sum := by omega
        simp [h3, this]
      · have : b.Sum < a.Sum := by omega
        simp [h3, this]
  · simp only [h1, decide_false, cond_false]
    by_cases h3 : p < q
    · have : ¬ q < p := by omega
      simp [h3, this]
    · have : q < p := by omega
      simp [h3, this]

theorem comp_self (a : THeader) (ha : 0 ≤ a.Age ∧ a.Age ≤ 3600) : F41_lsa_Compare a a = 0 := by
  rw [comp_eq ha ha]
  unfold F43_crossroadsref11_Compare
  have h1 : ¬ (IntKind.i64.wrap (a.Age + 900) < a.Age) := by rw [wi64 (by omega) (by omega)]; omega
  simp [h1]

/-! ### Wants -/

theorem fndW_mem {L : List TAd} {k : TKey} (h : (fndW L k).2 = true) : (fndW L k).1 ∈ L := by
  unfold fndW at *
  cases hf : L.find? (fun x => decide (F38_crossroadsref11_Key x.H = k)) with
  | none => rw [hf] at h; cases h
  | some x => exact List.mem_of_find?_eq_some hf

theorem wants_eq {s : TStore} (h : StOk s) : ∀ (l : List THeader) (out : List TKey), (∀ x ∈ l, KeyOk (F38_crossroadsref11_Key x) ∧ 0 ≤ x.Age ∧ x.Age ≤ 3600) → out.length + l.length ≤ 1099511627776 →
    ∃ r, F24_exch_Wants_l1 s out l = some r ∧ F25_crossroadsref17_Wants_l1 s out l = some r
  | [], out, _, _ => ⟨out, rfl, rfl⟩
  | x :: l, out, ho, hl => by
    obtain ⟨hk, ha⟩ := ho x (by simp)
    simp only [List.length_cons] at hl
    have hol : out.length < 1099511627776 := by omega
    have ho' : ∀ y ∈ l, KeyOk (F38_crossroadsref11_Key y) ∧ 0 ≤ y.Age ∧ y.Age ≤ 3600 := fun y hy => ho y (by simp [hy])
    have ek : F40_lsa_Key x = F38_crossroadsref11_Key x := rfl
    have ih1 := wants_eq h l (out ++ [F38_crossroadsref11_Key x]) ho' (by simp only [List.length_append, List.length_cons, List.length_nil]; omega)
    have ih2 := wants_eq h l out ho' (by omega)
    rw [F24_exch_Wants_l1, F25_crossroadsref17_Wants_l1]
    simp only [ek, find42]
    rw [find39 h hk]
    have hm := fndW_mem (L := s.L) (k := F38_crossroadsref11_Key x)
    rcases hf : fndW s.L (F38_crossroadsref11_Key x) with ⟨y, b⟩
    rw [hf] at hm
    simp only at hm ⊢
    cases b
    · simp only [cond_false, hol, decide_true, cond_true]
      exact ih1
    · simp only [cond_true]
      rw [comp_eq ha (h.age y (hm rfl))]
      by_cases h0 : 0 < F43_crossroadsref11_Compare x y.H
      · simp only [h0, decide_true, cond_true, hol]
        exact ih1
      · simp only [h0, decide_false, cond_false]
        exact ih2

theorem keys_refl (a : List TKey) : F23_crossroadsref13_Keys a a = true := by
  have : ∀ (i : Nat) (l : List TKey), l = a.drop i → F23_crossroadsref13_Keys_l1 a i l = .ok () := by
    intro i l
    induction l generalizing i with
    | nil => intro _; rfl
    | cons x l ih =>
      intro h
      rw [F23_crossroadsref13_Keys_l1]
      have hb : a.getD i default = x := by
        have : (a.drop i)[0]? = some x := by rw [← h]; rfl
        rw [List.getElem?_drop] at this
        simp only [Nat.add_zero] at this
        rw [List.getD_eq_getElem?_getD, this]; rfl
      rw [hb]
      simp only [decide_true, Bool.and_true, Bool.true_and, cond_true]
      refine ih (i + 1) ?_
      rw [← List.tail_drop, ← h, List.tail_cons]
  unfold F23_crossroadsref13_Keys
  rw [this 0 a rfl]
  simp

theorem heads_eq : ∀ (l : List TAd) (out : List THeader), out.length + l.length ≤ 1099511627776 → F26_store_Heads_l1 out l = some (out ++ l.map (·.H))
  | [], out, _ => by simp [F26_store_Heads_l1]
  | x :: l, out, h => by
    simp only [List.length_cons] at h
    have ho : out.length < 1099511627776 := by omega
    rw [F26_store_Heads_l1]
    simp only [ho, decide_true, cond_true]
    rw [heads_eq l _ (by simp only [List.length_append, List.length_cons, List.length_nil]; omega)]
    simp

theorem wants_own {s : TStore} (h : StOk s) : ∀ (l : List TAd), (∀ x ∈ l, x ∈ s.L) → F24_exch_Wants_l1 s [] (l.map (·.H)) = some []
  | [], _ => rfl
  | x :: l, hm => by
    have hx := hm x (by simp)
    obtain ⟨c, hc, e⟩ := List.getElem_of_mem hx
    have hk := h.ok x hx
    rw [List.map_cons, F24_exch_Wants_l1]
    have ek : F40_lsa_Key x.H = F38_crossroadsref11_Key x.H := rfl
    simp only [ek]
    rw [find39 h hk, fndW_at h hk hc (by rw [e]; rfl), e]
    simp only [cond_true, comp_self x.H (h.age x hx), Int.lt_irrefl, decide_false, cond_false]
    exact wants_own h l (fun y hy => hm y (by simp [hy]))

end Go.Proofs.Ytbmdpedhobkeeaa.Abs
