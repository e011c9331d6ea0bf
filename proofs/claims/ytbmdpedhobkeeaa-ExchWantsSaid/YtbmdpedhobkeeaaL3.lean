/- ExchWants: that nothing is asked of what is not there; and the law. Plain law: no program in sight. -/
import Derived.Test.YtbmdpedhobkeeaaL2
set_option linter.unusedVariables false
set_option linter.unusedSimpArgs false
namespace Go.Proofs.Ytbmdpedhobkeeaa.Abs
open Go

theorem getI_lt {α : Type} {L : List α} {i : Nat} (h : i < L.length) : ∃ x, getI L (i : Int) = some x ∧ x ∈ L :=
  ⟨L[i], getI_nat (List.getElem?_eq_getElem h), List.getElem_mem h⟩

theorem take4_l1 {b : List Int} (h : 4 ≤ b.length) : ∀ (fuel i : Nat) (n : Int), ∃ r, F80_crossroadsref01_Take_l1 b 4 fuel n (i : Int) = some r
  | fuel, i, n => by
    unfold F80_crossroadsref01_Take_l1
    by_cases hi : (i : Int) < 4
    · simp only [hi, decide_true, cond_true]
      match fuel with
      | 0 => exact ⟨_, rfl⟩
      | fuel + 1 =>
        obtain ⟨x, hx, _⟩ := getI_lt (L := b) (i := i) (by omega)
        simp only [hx]
        rw [show IntKind.i64.wrap ((i : Int) + 1) = ((i + 1 : Nat) : Int) by rw [wi64 (by omega) (by omega)]; omega]
        exact take4_l1 h fuel (i + 1) _
    · simp only [hi, decide_false, cond_false]
      exact ⟨_, rfl⟩

theorem take4 {b : List Int} (hb : b.length ≤ 1400) : (b.length < 4 ∧ F80_crossroadsref01_Take b 4 = some (0, [], 2)) ∨ (4 ≤ b.length ∧ ∃ n, F80_crossroadsref01_Take b 4 = some (n, b.drop 4, 0)) := by
  unfold F80_crossroadsref01_Take
  have h1 : ¬ ((4 : Int) < 1) := by decide
  have h2 : ¬ ((4 : Int) < 4) := by decide
  simp only [h1, h2, decide_false, cond_false]
  by_cases h : b.length < 4
  · have h' : (b.length : Int) < 4 := by omega
    left
    simp only [h', decide_true, cond_true]
    exact ⟨h, trivial⟩
  · have h' : ¬ (b.length : Int) < 4 := by omega
    right
    refine ⟨by omega, ?_⟩
    simp only [h', decide_false, cond_false]
    obtain ⟨r, hr⟩ := take4_l1 (b := b) (by omega) (fuelUp 0 4) 0 0
    have hr' : F80_crossroadsref01_Take_l1 b 4 (fuelUp 0 4) 0 0 = some r := hr
    rw [hr']
    have e1 : (0 : Int) ≤ 4 := by decide
    have e2 : (4 : Int) ≤ (b.length : Int) := by omega
    have e3 : (([] : List Int) ++ b.drop (4 : Int).toNat).length ≤ 140737488355328 := by
      simp only [List.nil_append, List.length_drop]; omega
    simp only [e1, e2, e3, decide_true, cond_true]
    exact ⟨r, rfl⟩

theorem rows4_l1 : ∀ (fuel : Nat) (b out : List Int), b.length < fuel → b.length ≤ 1400 → out.length + b.length ≤ 3000 →
    (b.length % 4 = 0 ∧ ∃ o, F70_crossroadsref01_Rows_l1 4 fuel b out = some (.ok ([], o)) ∧ o.length = out.length + b.length / 4) ∨ (b.length % 4 ≠ 0 ∧ F70_crossroadsref01_Rows_l1 4 fuel b out = some (.error ([], 2)))
  | 0, b, out, h, _, _ => absurd h (by omega)
  | fuel + 1, b, out, h, hb, ho => by
    unfold F70_crossroadsref01_Rows_l1
    by_cases h0 : 0 < b.length
    · have h0' : (0 : Int) < (b.length : Int) := by omega
      simp only [h0', decide_true, cond_true]
      rcases take4 hb with ⟨h4, e⟩ | ⟨h4, n, e⟩
      · rw [e]
        right
        refine ⟨by omega, ?_⟩
        rfl
      · rw [e]
        have hol : out.length < 1099511627776 := by omega
        simp only [hol, decide_true, cond_true]
        have hl : (b.drop 4).length = b.length - 4 := List.length_drop
        rcases rows4_l1 fuel (b.drop 4) (out ++ [n]) (by omega) (by omega) (by simp only [List.length_append, List.length_cons, List.length_nil]; omega) with ⟨h5, o, e5, h6⟩ | ⟨h5, e5⟩
        · left
          refine ⟨by omega, o, e5, ?_⟩
          simp only [List.length_append, List.length_cons, List.length_nil] at h6
          omega
        · right
          exact ⟨by omega, e5⟩
    · have h0' : ¬ (0 : Int) < (b.length : Int) := by omega
      simp only [h0', decide_false, cond_false]
      have : b = [] := List.length_eq_zero_iff.1 (by omega)
      subst this
      left
      exact ⟨rfl, out, rfl, by simp⟩

theorem rows4 {b : List Int} (hb : b.length ≤ 1400) : (b.length % 4 = 0 ∧ ∃ o, F70_crossroadsref01_Rows b 4 = some (o, 0) ∧ o.length = b.length / 4) ∨ (b.length % 4 ≠ 0 ∧ F70_crossroadsref01_Rows b 4 = some ([], 2)) := by
  unfold F70_crossroadsref01_Rows
  have h1 : ¬ ((4 : Int) < 1) := by decide
  have h2 : ¬ ((4 : Int) < 4) := by decide
  simp only [h1, h2, decide_false, cond_false]
  rcases rows4_l1 (b.length + 1) b [] (by omega) hb (by simp only [List.length_nil]; omega) with ⟨h3, o, e, h4⟩ | ⟨h3, e⟩
  · left
    refine ⟨h3, o, ?_, by simpa using h4⟩
    rw [e]
  · right
    refine ⟨h3, ?_⟩
    rw [e]

theorem net_some {b : List Int} (hb : b.length ≤ 1400) : ∃ r, F53_crossroadsref12_ReadNetwork b = some r := by
  unfold F53_crossroadsref12_ReadNetwork
  rcases rows4 hb with ⟨h1, o, e, ho⟩ | ⟨h1, e⟩
  · rw [e]
    simp only [decide_true, cond_true]
    by_cases h2 : (o.length : Int) < 2
    · simp only [h2, decide_true, cond_true]; exact ⟨_, rfl⟩
    · simp only [h2, decide_false, cond_false]
      obtain ⟨x, hx, _⟩ := getI_lt (L := o) (i := 0) (by omega)
      have hx' : getI o 0 = some x := hx
      have h3 : (1 : Int) ≤ (o.length : Int) := by omega
      simp only [hx', h3, decide_true, cond_true]
      cases F72_crossroadsref12_isMask x <;> cases decide (201 < (o.length : Int)) <;> exact ⟨_, rfl⟩
  · rw [e]
    exact ⟨_, rfl⟩

theorem sum_some {b : List Int} (hb : b.length ≤ 1400) : ∃ r, F54_crossroadsref12_ReadSummary b = some r := by
  unfold F54_crossroadsref12_ReadSummary
  by_cases h1 : (b.length : Int) < 8
  · simp only [h1, decide_true, cond_true]; exact ⟨_, rfl⟩
  · by_cases h2 : 8 < (b.length : Int)
    · simp only [h1, h2, decide_true, decide_false, cond_true, cond_false]; exact ⟨_, rfl⟩
    · simp only [h1, h2, decide_false, cond_false]
      obtain ⟨x, hx, _⟩ := getI_lt (L := b) (i := 4) (by omega)
      have hx' : getI b 4 = some x := hx
      simp only [hx']
      cases decide (x = 0)
      · exact ⟨_, rfl⟩
      · simp only [cond_true]
        rcases rows4 hb with ⟨h3, o, e, ho⟩ | ⟨h3, e⟩
        · rw [e]
          obtain ⟨y, hy, _⟩ := getI_lt (L := o) (i := 0) (by omega)
          obtain ⟨z, hz, _⟩ := getI_lt (L := o) (i := 1) (by omega)
          have hy' : getI o 0 = some y := hy
          have hz' : getI o 1 = some z := hz
          simp only [hy', hz']
          cases F72_crossroadsref12_isMask y <;> exact ⟨_, rfl⟩
        · omega

theorem ext_some {b : List Int} (hb : b.length ≤ 1400) : ∃ r, F55_crossroadsref12_ReadExternal b = some r := by
  unfold F55_crossroadsref12_ReadExternal
  by_cases h1 : (b.length : Int) < 16
  · simp only [h1, decide_true, cond_true]; exact ⟨_, rfl⟩
  · by_cases h2 : 16 < (b.length : Int)
    · simp only [h1, h2, decide_true, decide_false, cond_true, cond_false]; exact ⟨_, rfl⟩
    · simp only [h1, h2, decide_false, cond_false]
      obtain ⟨x, hx, _⟩ := getI_lt (L := b) (i := 4) (by omega)
      have hx' : getI b 4 = some x := hx
      simp only [hx']
      rcases rows4 hb with ⟨h3, o, e, ho⟩ | ⟨h3, e⟩
      · obtain ⟨y, hy, _⟩ := getI_lt (L := o) (i := 0) (by omega)
        obtain ⟨z, hz, _⟩ := getI_lt (L := o) (i := 1) (by omega)
        obtain ⟨u, hu, _⟩ := getI_lt (L := o) (i := 2) (by omega)
        obtain ⟨v, hv, _⟩ := getI_lt (L := o) (i := 3) (by omega)
        have hy' : getI o 0 = some y := hy
        have hz' : getI o 1 = some z := hz
        have hu' : getI o 2 = some u := hu
        have hv' : getI o 3 = some v := hv
        rw [e]
        simp only [hy', hz', hu', hv']
        cases decide (x = 0) <;> cases decide (x = 128) <;> cases F72_crossroadsref12_isMask y <;> exact ⟨_, rfl⟩
      · omega

/-! ### A router's body -/

theorem router_l2 {b : List Int} {p q : Int} {n : Nat} (hp : 0 ≤ p ∧ p < 256) (hq : 0 ≤ q ∧ q < 256) (hn : 256 * p + q = n) (hn1 : n ≤ 100) (hb : b.length = 4 + 12 * n) : ∀ (fuel i : Nat) (ok : Bool) (row : List TLink), i ≤ n → n - i < fuel → row.length ≤ i →
    ∃ X, F52_crossroadsref12_ReadRouter_l2 b p q fuel ok (i : Int) row = some X
  | 0, i, ok, row, _, h, _ => absurd h (by omega)
  | fuel + 1, i, ok, row, hi, hf, hr => by
    unfold F52_crossroadsref12_ReadRouter_l2
    cases ok
    · exact ⟨_, rfl⟩
    · simp only [cond_true]
      rw [wi64 (x := p) (by omega) (by omega), wi64 (x := q) (by omega) (by omega), wi64 (x := 256 * p) (by omega) (by omega), wi64 (x := 256 * p + q) (by omega) (by omega), wi64 (x := 12 * (i : Int)) (by omega) (by omega),
        wi64 (x := 4 + 12 * (i : Int)) (by omega) (by omega), wi64 (x := 16 + 12 * (i : Int)) (by omega) (by omega), hn]
      by_cases hlt : (i : Int) < (n : Int)
      · have e1 : (0 : Int) ≤ 4 + 12 * (i : Int) := by omega
        have e2 : 4 + 12 * (i : Int) ≤ 16 + 12 * (i : Int) := by omega
        have e3 : 16 + 12 * (i : Int) ≤ (b.length : Int) := by omega
        simp only [hlt, e1, e2, e3, decide_true, cond_true]
        have hl : ((b.drop (4 + 12 * (i : Int)).toNat).take ((16 + 12 * (i : Int)).toNat - (4 + 12 * (i : Int)).toNat)).length = 12 := by
          rw [List.length_take, List.length_drop]; omega
        rcases rows4 (b := (b.drop (4 + 12 * (i : Int)).toNat).take ((16 + 12 * (i : Int)).toNat - (4 + 12 * (i : Int)).toNat)) (by omega) with ⟨h3, o, e, ho⟩ | ⟨h3, e⟩
        · rw [e]
          obtain ⟨y, hy, _⟩ := getI_lt (L := o) (i := 0) (by omega)
          obtain ⟨z, hz, _⟩ := getI_lt (L := o) (i := 1) (by omega)
          obtain ⟨u, hu, _⟩ := getI_lt (L := o) (i := 2) (by omega)
          have hy' : getI o 0 = some y := hy
          have hz' : getI o 1 = some z := hz
          have hu' : getI o 2 = some u := hu
          have hrl : row.length < 1099511627776 := by omega
          simp only [hy', hz', hu', hrl, decide_true, cond_true]
          rw [show IntKind.i64.wrap ((i : Int) + 1) = ((i + 1 : Nat) : Int) by rw [wi64 (by omega) (by omega)]; omega]
          exact router_l2 hp hq hn hn1 hb fuel (i + 1) _ _ (by omega) (by omega) (by simp only [List.length_append, List.length_cons, List.length_nil]; omega)
        · omega
      · simp only [hlt, decide_false, cond_false]
        exact ⟨_, rfl⟩

theorem router_some {b : List Int} (hb : b.length ≤ 1400) (hy : ∀ y ∈ b, InK .u8 y) : ∃ r, F52_crossroadsref12_ReadRouter b = some r := by
  unfold F52_crossroadsref12_ReadRouter
  by_cases h1 : (b.length : Int) < 4
  · simp only [h1, decide_true, cond_true]; exact ⟨_, rfl⟩
  · simp only [h1, decide_false, cond_false]
    obtain ⟨p, ep, mp⟩ := getI_lt (L := b) (i := 2) (by omega)
    obtain ⟨q, eq, mq⟩ := getI_lt (L := b) (i := 3) (by omega)
    obtain ⟨u, eu, _⟩ := getI_lt (L := b) (i := 0) (by omega)
    obtain ⟨v, ev, _⟩ := getI_lt (L := b) (i := 1) (by omega)
    have hp := u8r (hy p mp)
    have hq := u8r (hy q mq)
    have ep' : getI b 2 = some p := ep
    have eq' : getI b 3 = some q := eq
    have eu' : getI b 0 = some u := eu
    have ev' : getI b 1 = some v := ev
    simp only [ep', eq', eu', ev']
    rw [wi64 (x := p) (by omega) (by omega), wi64 (x := q) (by omega) (by omega), wi64 (x := 256 * p) (by omega) (by omega), wi64 (x := 256 * p + q) (by omega) (by omega), wi64 (x := 12 * (256 * p + q)) (by omega) (by omega),
      wi64 (x := 4 + 12 * (256 * p + q)) (by omega) (by omega)]
    have l1 : F52_crossroadsref12_ReadRouter_l1 200 = some () := rfl
    by_cases h2 : (b.length : Int) < 4 + 12 * (256 * p + q)
    · simp only [h2, decide_true, cond_true]; exact ⟨_, rfl⟩
    · simp only [h2, decide_false, cond_false, l1]
      cases decide (v = 0)
      · exact ⟨_, rfl⟩
      · simp only [cond_true]
        by_cases h3 : (b.length : Int) = 4 + 12 * (256 * p + q)
        · simp only [h3, decide_true, cond_true]
          obtain ⟨n, hn⟩ := Int.eq_ofNat_of_zero_le (show 0 ≤ 256 * p + q by omega)
          have key : ∃ X, F52_crossroadsref12_ReadRouter_l2 b p q 200 (decide (256 * p + q ≤ 100)) 0 [] = some X := by
            by_cases h4 : 256 * p + q ≤ 100
            · exact router_l2 hp hq hn (by omega) (by omega) 200 0 _ [] (by omega) (by omega) (Nat.le_refl _)
            · rw [decide_eq_false h4]; exact ⟨_, rfl⟩
          obtain ⟨⟨o, i, row⟩, e⟩ := key
          rw [e]
          cases o
          · exact ⟨_, rfl⟩
          · simp only [cond_true]
            cases F71_crossroadsref12_MayRouter ⟨IntKind.i64.wrap u, row⟩ <;> exact ⟨_, rfl⟩
        · simp only [h3, decide_false, cond_false]; exact ⟨_, rfl⟩

theorem right_some {x : TAd} (hb : x.B.length ≤ 1400) (hy : ∀ y ∈ x.B, InK .u8 y) : ∃ r, F36_crossroadsref12_Right x = some r := by
  unfold F36_crossroadsref12_Right
  obtain ⟨r1, e1⟩ := router_some hb hy
  obtain ⟨r2, e2⟩ := net_some hb
  obtain ⟨r3, e3⟩ := sum_some hb
  obtain ⟨r4, e4⟩ := ext_some hb
  rw [e1, e2, e3, e4]
  cases decide (x.H.Typef = 1) <;> cases decide (x.H.Typef = 2) <;> cases decide (x.H.Typef = 3) <;> cases decide (x.H.Typef = 4) <;> cases decide (x.H.Typef = 5) <;> cases decide (x.H.Typef = 7) <;> exact ⟨_, rfl⟩

theorem whole_some {x : TAd} (hb : x.B.length ≤ 140737488351232) : ∃ r, F35_crossroadsref11_Whole x = some r ∧ (r = true → x.B.length ≤ 1400 ∧ 0 ≤ x.H.Age ∧ x.H.Age ≤ 3600) := by
  unfold F35_crossroadsref11_Whole
  have e : ∃ c, F49_crossroadsref11_raw x.H = some c ∧ c.length = 20 := by
    refine ⟨_, rfl, rfl⟩
  obtain ⟨c, e, hc⟩ := e
  rw [e]
  have h1 : (c ++ x.B).length ≤ 140737488355328 := by rw [List.length_append]; omega
  have h2 : (2 : Int) ≤ ((c ++ x.B).length : Int) := by rw [List.length_append]; omega
  simp only [h1, h2, decide_true, cond_true]
  cases hm : F50_crossroadsref11_MayAd x
  · exact ⟨_, rfl, fun h => by cases h⟩
  · simp only [cond_true]
    refine ⟨_, rfl, fun _ => ?_⟩
    unfold F50_crossroadsref11_MayAd F68_crossroadsref11_May at hm
    simp only [Bool.and_eq_true, decide_eq_true_eq] at hm
    rw [wi64 (by omega) (by omega)] at hm
    obtain ⟨⟨a1, a2, _, _, _, _, hrest⟩, hlong⟩ := hm
    refine ⟨?_, a1, a2⟩
    by_cases h6 : x.H.Typef = 6
    · simp [h6] at hrest
    · simp [h6] at hrest
      omega

/-! ### The law -/

def AdsOk (s : TStore) : Prop := ∀ x ∈ s.L, x.B.length ≤ 140737488351232 ∧ (∀ y ∈ x.B, InK .u8 y)

theorem may_l1 {s : TStore} (ha : AdsOk s) (hs : s.L.length ≤ 100) : ∀ (l : List TAd) (i : Nat), l = s.L.drop i →
    F22_crossroadsref14_May_l1 s i l = some (.error false) ∨ (F22_crossroadsref14_May_l1 s i l = some (.ok ()) ∧ (∀ x ∈ l, 0 ≤ x.H.Age ∧ x.H.Age ≤ 3600) ∧ ∀ j (hj : j < s.L.length), 1 ≤ j → i ≤ j → F37_crossroadsref11_Less (F38_crossroadsref11_Key (s.L[j - 1]'(by omega)).H) (F38_crossroadsref11_Key s.L[j].H) = true)
  | [], i, h => by
    right
    refine ⟨rfl, (fun x hx => by cases hx), fun j hj h1 h2 => ?_⟩
    have : (s.L.drop i).length = 0 := by rw [← h]; rfl
    rw [List.length_drop] at this
    omega
  | x :: l, i, h => by
    have hi : i < s.L.length := by
      have : (s.L.drop i).length = l.length + 1 := by rw [← h]; rfl
      rw [List.length_drop] at this; omega
    have hx : s.L[i] = x ∧ l = s.L.drop (i + 1) := by
      rw [List.drop_eq_getElem_cons hi] at h
      injection h with h1 h2
      exact ⟨h1.symm, h2⟩
    obtain ⟨hx, hl⟩ := hx
    have hmem : x ∈ s.L := hx ▸ List.getElem_mem hi
    obtain ⟨ha1, ha2⟩ := ha x hmem
    rw [F22_crossroadsref14_May_l1]
    obtain ⟨r, er, hr⟩ := whole_some ha1
    rw [er]
    cases r
    · exact .inl rfl
    · obtain ⟨h1, h2⟩ := hr rfl
      simp only [cond_true]
      obtain ⟨q, eq⟩ := right_some h1 ha2
      rw [eq]
      cases q
      · exact .inl rfl
      · simp only [cond_true]
        have ih := may_l1 ha hs l (i + 1) hl
        by_cases h0 : i = 0
        · subst h0
          simp only [Int.ofNat_zero, Int.lt_irrefl, decide_false, cond_false, show ¬ ((0 : Int) < ((0 : Nat) : Int)) by decide]
          rcases ih with ih | ⟨ih, k1, k2⟩
          · exact .inl ih
          · right
            refine ⟨ih, fun y hy => ?_, fun j hj g1 g2 => k2 j hj g1 (by omega)⟩
            rcases List.mem_cons.1 hy with rfl | hy
            · exact h2
            · exact k1 y hy
        · have h0' : (0 : Int) < (i : Int) := by omega
          simp only [h0', decide_true, cond_true]
          have hg : getI s.L ((i - 1 : Nat) : Int) = some (s.L[i - 1]'(by omega)) := getI_nat (List.getElem?_eq_getElem (by omega))
          rw [hg]
          simp only
          cases hless : F37_crossroadsref11_Less (F38_crossroadsref11_Key (s.L[i - 1]'(by omega)).H) (F38_crossroadsref11_Key x.H)
          · exact .inl rfl
          · simp only [cond_true]
            rcases ih with ih | ⟨ih, k1, k2⟩
            · exact .inl ih
            · right
              refine ⟨ih, fun y hy => ?_, fun j hj g1 g2 => ?_⟩
              · rcases List.mem_cons.1 hy with rfl | hy
                · exact h2
                · exact k1 y hy
              · rcases Nat.lt_or_eq_of_le g2 with g | g
                · exact k2 j hj g1 g
                · subst g
                  rw [hx]; exact hless

theorem adj_pair {α : Type} {f : α → Int} {L : List α} (h : ∀ j (hj : j < L.length), 1 ≤ j → f (L[j - 1]'(by omega)) < f L[j]) : L.Pairwise fun a b => f a < f b := by
  rw [List.pairwise_iff_getElem]
  intro i j hi hj hij
  obtain ⟨d, rfl⟩ := Nat.exists_eq_add_of_lt hij
  induction d with
  | zero => exact h (i + 1) hj (by omega)
  | succ d ih =>
    have h1 := ih (by omega) (by omega)
    have h2 := h (i + (d + 1) + 1) hj (by omega)
    exact Int.lt_trans h1 h2

theorem may_ok {s : TStore} (ho : s.ok) (hs : s.L.length ≤ 100) : F22_crossroadsref14_May s = some false ∨ (F22_crossroadsref14_May s = some true ∧ StOk s) := by
  have hk : ∀ x ∈ s.L, KeyOk (F38_crossroadsref11_Key x.H) := fun x hx => keyOk (ho.2.1 x hx).1
  unfold F22_crossroadsref14_May
  cases decide (s.Max < 1)
  · cases decide (2000 < s.Max)
    · cases decide (s.Max < (s.L.length : Int))
      · simp only [cond_false]
        rcases may_l1 (s := s) (fun x hx => ⟨by have := (ho.2.1 x hx).2.2; omega, (ho.2.1 x hx).2.1⟩) hs s.L 0 rfl with e | ⟨e, h1, h2⟩
        · left; rw [e]
        · right
          rw [e]
          refine ⟨rfl, ⟨adj_pair fun j hj g => ?_, hs, hk, h1⟩⟩
          have := h2 j hj g (by omega)
          rw [less_kf (hk _ (List.getElem_mem _)) (hk _ (List.getElem_mem _))] at this
          exact of_decide_eq_true this
      · exact .inl rfl
    · exact .inl rfl
  · exact .inl rfl

theorem wants_l1 : ∀ (l : List THeader), F7_crossroadslaw17_ExchWants_l1 l = some (.error true) ∨ (F7_crossroadslaw17_ExchWants_l1 l = some (.ok ()) ∧ ∀ x ∈ l, 0 ≤ x.Age ∧ x.Age ≤ 3600)
  | [] => .inr ⟨rfl, fun x h => by cases h⟩
  | x :: l => by
    rw [F7_crossroadslaw17_ExchWants_l1, aliveW]
    by_cases h1 : x.Age < 0
    · simp only [h1, decide_true, cond_true]; first | exact .inl rfl | exact .inl trivial
    · by_cases h2 : 3600 < x.Age
      · simp only [h1, h2, decide_true, decide_false, cond_true, cond_false]; first | exact .inl rfl | exact .inl trivial
      · simp only [h1, h2, decide_false, cond_false]
        rcases wants_l1 l with e | ⟨e, h⟩
        · exact .inl e
        · right
          refine ⟨e, fun y hy => ?_⟩
          rcases List.mem_cons.1 hy with rfl | hy
          · omega
          · exact h y hy

theorem exchWants_true (s : TStore) (l : List THeader) (ho : s.ok) (hl : (∀ y ∈ l, THeader.ok y) ∧ l.length * 56 ≤ 140737488351232) : F7_crossroadslaw17_ExchWants s l = some true := by
  unfold F7_crossroadslaw17_ExchWants
  rw [aliveW]
  by_cases h1 : 100 < (s.L.length : Int)
  · simp only [h1, decide_true, cond_true]
  · by_cases h2 : 120 < (l.length : Int)
    · simp only [h1, h2, decide_true, decide_false, cond_true, cond_false]
    · simp only [h1, h2, decide_false, cond_false]
      rcases may_ok ho (by omega) with e | ⟨e, hS⟩
      · rw [e]; rfl
      · rw [e]
        simp only [cond_true]
        rcases wants_l1 l with e2 | ⟨e2, hage⟩
        · rw [e2]
        · rw [e2]
          simp only
          obtain ⟨r, w1, w2⟩ := wants_eq hS l [] (fun x hx => ⟨keyOk (hl.1 x hx), hage x hx⟩) (by simp only [List.length_nil]; omega)
          have hlen := hS.len
          have e3 : F24_exch_Wants s l = some r := by unfold F24_exch_Wants; rw [w1]
          have e4 : F25_crossroadsref17_Wants s l = some r := by unfold F25_crossroadsref17_Wants; rw [w2]
          have e5 : F26_store_Heads s = some (s.L.map (·.H)) := by
            unfold F26_store_Heads
            rw [heads_eq s.L [] (by simp only [List.length_nil]; omega)]
            simp
          have e6 : F24_exch_Wants s (s.L.map (·.H)) = some [] := by unfold F24_exch_Wants; rw [wants_own hS s.L (fun x hx => hx)]
          rw [e3, e4]
          simp only [keys_refl, cond_true]
          rw [e5]
          simp only
          rw [e6]
          rfl

end Go.Proofs.Ytbmdpedhobkeeaa.Abs
