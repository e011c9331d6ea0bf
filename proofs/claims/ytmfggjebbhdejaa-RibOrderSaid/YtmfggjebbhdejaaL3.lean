/- One order of what counts: RibOrder. Plain law: no program in sight. -/
import Derived.Test.YtmfggjebbhdejaaL2
set_option linter.unusedVariables false
set_option linter.unusedSimpArgs false
set_option maxRecDepth 100000
namespace Go.Proofs.Ytmfggjebbhdejaa.Abs
open Go

/-! ### Laid into a table -/
theorem key_len (a : TCand) : (keyL a).length = 6 := rfl
theorem byKey_or (a b : TCand) : F31_rib_byKey a b = F48_cmp_Or (List.zipWith cmpI (keyL a) (keyL b)) := by
  unfold F31_rib_byKey
  simp only [cmp49, cmp50, leaked_eq, leaked_cmp]
  rfl
theorem or_zero : ∀ {a b : List Int}, a.length = b.length → F48_cmp_Or (List.zipWith cmpI a b) = 0 → a = b
  | [], [], _, _ => rfl
  | [], _ :: _, h, _ => by simp at h
  | _ :: _, [], h, _ => by simp at h
  | x :: xs, y :: ys, hl, h => by
    rw [List.zipWith_cons_cons, or_cons] at h
    unfold cmpI at h
    by_cases h1 : x < y
    · simp [h1] at h
    · by_cases h2 : y < x
      · simp [h1, h2] at h
      · simp only [h1, h2, if_false, if_true] at h
        rw [or_zero (by simpa using hl) h, show x = y by omega]

theorem byKey_neg (a b : TCand) : F31_rib_byKey a b < 0 ↔ Kl a b := by
  rw [byKey_or]
  unfold Kl
  rw [← or_lex]
  simp

theorem bs_l1 {l : List TCand} (hs : l.Pairwise Kl) (hn : l.length ≤ 1000) {s : TCand} : ∀ (fuel i j : Nat), i ≤ j → j ≤ l.length → j - i < 2 ^ fuel →
    (∀ a (ha : a < l.length), a < i → Kl l[a] s) → (∀ a (ha : a < l.length), j ≤ a → ¬ Kl l[a] s) →
    ∃ c : Nat, F43_slices_BinarySearchFunc_l1 l s (fun y0 y1 => F31_rib_byKey y0 y1) (fuel + 1) (i : Int) (j : Int) = some ((c : Int), (c : Int)) ∧ c ≤ l.length ∧
      (∀ a (ha : a < l.length), a < c → Kl l[a] s) ∧ (∀ a (ha : a < l.length), c ≤ a → ¬ Kl l[a] s)
  | fuel, i, j, hij, hj, hf, hlo, hhi => by
    unfold F43_slices_BinarySearchFunc_l1
    by_cases hlt : i < j
    · have hlt' : (i : Int) < (j : Int) := by omega
      simp only [hlt', decide_true, cond_true]
      rw [mid_eq (by omega) (by omega) (by omega), show ((i : Int) + (j : Int)) / 2 = (((i + j) / 2 : Nat) : Int) by omega]
      have hm : (i + j) / 2 < l.length := by omega
      rw [getI_nat (List.getElem?_eq_getElem hm)]
      simp only
      match fuel, hf with
      | 0, hf => omega
      | fuel + 1, hf =>
        have hf2 : j - i < 2 * 2 ^ fuel := by rw [Nat.pow_succ] at hf; omega
        by_cases hc : Kl l[(i + j) / 2] s
        · have hc' : decide (F31_rib_byKey l[(i + j) / 2] s < 0) = true := by simpa using (byKey_neg _ _).2 hc
          rw [hc', cond_true]
          rw [show IntKind.i64.wrap ((((i + j) / 2 : Nat) : Int) + 1) = (((i + j) / 2 + 1 : Nat) : Int) by rw [wi64 (by omega) (by omega)]; omega]
          refine bs_l1 hs hn fuel ((i + j) / 2 + 1) j (by omega) hj (by omega) (fun a ha hai => ?_) hhi
          rcases Nat.lt_or_eq_of_le (Nat.le_of_lt_succ hai) with q | q
          · exact (List.pairwise_iff_getElem.1 hs a _ ha hm q).trans hc
          · subst q; exact hc
        · have hc' : decide (F31_rib_byKey l[(i + j) / 2] s < 0) = false := by
            simp only [decide_eq_false_iff_not]
            exact fun q => hc ((byKey_neg _ _).1 q)
          rw [hc', cond_false]
          refine bs_l1 hs hn fuel i ((i + j) / 2) (by omega) (by omega) (by omega) hlo (fun a ha hai => ?_)
          rcases Nat.lt_or_eq_of_le hai with q | q
          · have := List.pairwise_iff_getElem.1 hs _ a hm ha q
            exact fun q2 => hc (this.trans q2)
          · subst q; exact hc
    · have hlt' : ¬ (i : Int) < (j : Int) := by omega
      simp only [hlt', decide_false, cond_false]
      have : i = j := by omega
      subst this
      exact ⟨i, rfl, hj, hlo, hhi⟩

/-- Laid in, where no key is like its own. -/
theorem put_eq {t : TTable} (hs : t.L.Pairwise Kl) (hn : t.L.length < 500) {x : TCand} (hx : MayP x) (hne : ∀ y ∈ t.L, keyL y ≠ keyL x) :
    ∃ A B, t.L = A ++ B ∧ F23_rib_Put t x = some (⟨A ++ x :: B⟩, 0) ∧ (A ++ x :: B).Pairwise Kl := by
  have hp99 : t.L.length - 0 < 2 ^ 99 := Nat.lt_of_lt_of_le (show t.L.length - 0 < 2 ^ 10 by omega) (Nat.pow_le_pow_right (by decide) (by decide))
  obtain ⟨c, h1, h2, h3, h4⟩ := bs_l1 hs (by omega) (s := x) 99 0 t.L.length (Nat.zero_le _) (Nat.le_refl _) hp99 (fun a ha h0 => absurd h0 (Nat.not_lt_zero _)) (fun a ha h0 => absurd ha (by omega))
  have hA : ∀ y ∈ t.L.take c, Kl y x := by
    intro y hy
    obtain ⟨i, hi, rfl⟩ := List.getElem_of_mem hy
    rw [List.length_take] at hi
    rw [List.getElem_take]
    exact h3 i (by omega) (by omega)
  have hB : ∀ y ∈ t.L.drop c, Kl x y := by
    intro y hy
    have hyt : y ∈ t.L := List.mem_of_mem_drop hy
    obtain ⟨i, hi, rfl⟩ := List.getElem_of_mem hy
    rw [List.length_drop] at hi
    have h5 := h4 (c + i) (by omega) (by omega)
    rw [List.getElem_drop] at hyt ⊢
    unfold Kl at *
    cases k : lexlt (keyL x) (keyL t.L[c + i]) with
    | true => rfl
    | false => exact absurd (lexlt_total (a := keyL t.L[c + i]) (b := keyL x) rfl (by simpa using h5) k) (hne _ hyt)
  refine ⟨t.L.take c, t.L.drop c, (List.take_append_drop c t.L).symm, ?_, ?_⟩
  · unfold F23_rib_Put F43_slices_BinarySearchFunc
    have e0 : (((0 : Nat) : Int)) = 0 := rfl
    rw [e0] at h1
    rw [h1, (may8 x).2 hx]
    have d1 : decide (t.L.length < 1099511627776) = true := by simp; omega
    have d2 : decide (500 ≤ (t.L.length : Int)) = false := by simp; omega
    have d3 : decide ((0 : Int) ≤ (c : Int)) = true := by simp
    have d4 : decide ((c : Int) ≤ (t.L.length : Int)) = true := by simp; omega
    have fin : ins_ t.L (c : Int) ([x] : List TCand) = t.L.take c ++ x :: t.L.drop c := by unfold ins_; simp
    by_cases hc : c < t.L.length
    · have d : decide ((c : Int) < (t.L.length : Int)) = true := by simp; omega
      have hz : decide (F31_rib_byKey t.L[c] x = 0) = false := by
        simp only [decide_eq_false_iff_not]
        intro q
        rw [byKey_or] at q
        exact hne _ (List.getElem_mem hc) (or_zero rfl q)
      simp only [d, cond_true, getI_nat (List.getElem?_eq_getElem hc), hz, d1, d2, d3, d4, cond_false, fin]
    · have d : decide ((c : Int) < (t.L.length : Int)) = false := by simp; omega
      simp only [d, d1, d2, d3, d4, cond_true, cond_false, fin]
  · rw [List.pairwise_append, List.pairwise_cons]
    refine ⟨hs.sublist (List.take_sublist _ _), ⟨hB, hs.sublist (List.drop_sublist _ _)⟩, fun a ha b hb => ?_⟩
    rcases List.mem_cons.1 hb with rfl | hb
    · exact hA a ha
    · exact (hA a ha).trans (hB b hb)

/-- Two rows in order, of the same, are one. -/
theorem row_one : ∀ {a b : List TCand}, a.Pairwise Kl → b.Pairwise Kl → (∀ x, x ∈ a ↔ x ∈ b) → a = b
  | [], [], _, _, _ => rfl
  | [], y :: b, _, _, h => by have := (h y).2 List.mem_cons_self; cases this
  | x :: a, [], _, _, h => by have := (h x).1 List.mem_cons_self; cases this
  | x :: a, y :: b, ha, hb, h => by
    rw [List.pairwise_cons] at ha hb
    have irr : ∀ z : TCand, ¬ Kl z z := fun z k => by unfold Kl at k; rw [lexlt_irrefl] at k; cases k
    have e : x = y := by
      rcases List.mem_cons.1 ((h x).1 List.mem_cons_self) with hx | hx
      · exact hx
      · rcases List.mem_cons.1 ((h y).2 List.mem_cons_self) with hy | hy
        · exact hy.symm
        · exact absurd ((hb.1 x hx).trans (ha.1 y hy)) (irr y)
    subst e
    rw [row_one ha.2 hb.2 fun z => ?_]
    have := h z
    simp only [List.mem_cons] at this
    constructor
    · intro hz
      rcases this.1 (.inr hz) with rfl | k
      · exact absurd (ha.1 _ hz) (irr _)
      · exact k
    · intro hz
      rcases this.2 (.inr hz) with rfl | k
      · exact absurd (hb.1 _ hz) (irr _)
      · exact k

/-! ### Those of unlike keys -/
theorem again_l3 (x : TCand) : ∀ (k : List TCand) (b : Bool), F5_crossroadslaw25_RibOrder_l3 x b k = some (b || k.any fun y => !F14_rib_Less y x && !F14_rib_Less x y)
  | [], b => by rw [F5_crossroadslaw25_RibOrder_l3]; simp
  | y :: k, b => by
    rw [F5_crossroadslaw25_RibOrder_l3]
    cases b with
    | true =>
      simp only [cond_true]
      rw [again_l3 x k true]
      simp
    | false =>
      simp only [cond_false]
      cases h : F14_rib_Less y x with
      | true =>
        simp only [cond_true]
        rw [again_l3 x k false]
        simp [h]
      | false =>
        simp only [cond_false]
        rw [again_l3 x k]
        simp [h]

structure KOk (k : List TCand) : Prop where
  may : ∀ x ∈ k, MayP x
  u32 : ∀ x ∈ k, InK .u32 x.P.A
  hops : ∀ x ∈ k, x.Hops.length ≤ 20
  key : k.Pairwise fun a b => keyL a ≠ keyL b

theorem keys_l4 : ∀ (l k : List TCand), KOk k → k.length + l.length ≤ 1000 → (∀ x ∈ l, InK .u32 x.P.A) → (∀ x ∈ l, x.Hops.length ≤ 20) → ∃ k', F5_crossroadslaw25_RibOrder_l4 k l = some k' ∧ KOk k' ∧ k'.length ≤ k.length + l.length
  | [], k, hk, _, _, _ => ⟨k, by rw [F5_crossroadslaw25_RibOrder_l4], hk, by simp⟩
  | x :: l, k, hk, hn, hu, hh => by
    simp only [List.length_cons] at hn
    rw [F5_crossroadslaw25_RibOrder_l4, again_l3]
    simp only [Bool.false_or]
    have old : ∃ k', F5_crossroadslaw25_RibOrder_l4 k l = some k' ∧ KOk k' ∧ k'.length ≤ k.length + (x :: l).length := by
      obtain ⟨k', h1, h2, h3⟩ := keys_l4 l k hk (by omega) (fun y hy => hu y (List.mem_cons_of_mem _ hy)) (fun y hy => hh y (List.mem_cons_of_mem _ hy))
      exact ⟨k', h1, h2, by simp only [List.length_cons]; omega⟩
    cases hm : F8_rib_May x with
    | false => exact old
    | true =>
      simp only [cond_true]
      cases ha : k.any fun y => !F14_rib_Less y x && !F14_rib_Less x y with
      | true => exact old
      | false =>
        have d : decide (k.length < 1099511627776) = true := by simp; omega
        rw [d]
        simp only [cond_true, cond_false]
        have hk' : KOk (k ++ [x]) := by
          have sp : ∀ {Q : TCand → Prop}, (∀ y ∈ k, Q y) → Q x → ∀ y ∈ k ++ [x], Q y := fun h1 h2 y hy => by
            rcases List.mem_append.1 hy with hy | hy
            · exact h1 y hy
            · rw [List.mem_singleton.1 hy]; exact h2
          refine ⟨sp hk.may ((may8 x).1 hm), sp hk.u32 (hu x List.mem_cons_self), sp hk.hops (hh x List.mem_cons_self), ?_⟩
          rw [List.pairwise_append]
          refine ⟨hk.key, List.pairwise_singleton _ _, fun a hm b hb e => ?_⟩
          rw [List.mem_singleton.1 hb] at e
          have := List.any_eq_false.1 ha a hm
          rw [less_lex, less_lex, e, lexlt_irrefl] at this
          simp at this
        obtain ⟨k', h1, h2, h3⟩ := keys_l4 l (k ++ [x]) hk' (by simp; omega) (fun y hy => hu y (List.mem_cons_of_mem _ hy)) (fun y hy => hh y (List.mem_cons_of_mem _ hy))
        exact ⟨k', h1, h2, by simp at h3 ⊢; omega⟩

/-- Of two of one prefix just one is better. -/
theorem one_better {a b : TCand} (hP : a.P = b.P) (hk : keyL a ≠ keyL b) : (F16_rib_Better a b == F16_rib_Better b a) = false := by
  cases h1 : F16_rib_Better a b with
  | true =>
    have h2 : F16_rib_Better b a = false := by rw [better_lex] at h1 ⊢; exact lexlt_asymm h1
    rw [h2]
    rfl
  | false =>
    cases h2 : F16_rib_Better b a with
    | true => rfl
    | false =>
      exfalso
      rw [better_lex] at h1 h2
      have e : rankL a = rankL b := lexlt_total rfl h1 h2
      unfold rankL at e
      simp only [List.cons.injEq, and_true] at e
      obtain ⟨_, e2, e3, _, e5, e6⟩ := e
      apply hk
      unfold keyL
      rw [hP, e2, e3, e5, e6]

theorem pairs_l1 {k : List TCand} (hk : KOk k) (hn : k.length ≤ 1000) {i : Nat} {x : TCand} (hx : k[i]? = some x) : ∀ (f j : Nat), j + f = i → F5_crossroadslaw25_RibOrder_l1 k i x f (j : Int) = some (.ok ())
  | 0, j, hj => by
    unfold F5_crossroadslaw25_RibOrder_l1
    have d : decide ((j : Int) < (i : Int)) = false := by simp; omega
    rw [d]
    rfl
  | f + 1, j, hj => by
    unfold F5_crossroadslaw25_RibOrder_l1
    have hi := (List.getElem?_eq_some_iff.1 hx).1
    have d : decide ((j : Int) < (i : Int)) = true := by simp; omega
    have hjl : j < k.length := by omega
    have hw : IntKind.i64.wrap ((j : Int) + 1) = ((j + 1 : Nat) : Int) := by rw [wi64 (by omega) (by omega)]; omega
    have ih := pairs_l1 hk hn hx f (j + 1) (by omega)
    rw [d, getI_nat (List.getElem?_eq_getElem hjl)]
    simp only [cond_true, peq, hw]
    by_cases hP : k[j].P = x.P
    · have hkey : keyL k[j] ≠ keyL x := by
        have := List.pairwise_iff_getElem.1 hk.key j i hjl hi (by omega)
        rw [(List.getElem?_eq_some_iff.1 hx).2] at this
        exact this
      have hb := one_better hP hkey
      simp only [hP, decide_true, cond_true, hb, cond_false]
      exact ih
    · simp only [hP, decide_false, cond_false]
      exact ih

structure Half (k : List TCand) (p : List TCand) (t : TTable) : Prop where
  srt : t.L.Pairwise Kl
  mem : ∀ x, x ∈ t.L ↔ x ∈ p
  len : t.L.length = p.length

theorem half_put {k p : List TCand} {t : TTable} {x : TCand} (hk : KOk k) (hn : k.length ≤ 400) (h : Half k p t) (hp : p.length < k.length) (hx : x ∈ k) (hne : ∀ y ∈ p, keyL y ≠ keyL x) : ∃ t' e, F23_rib_Put t x = some (t', e) ∧ ∀ p', (∀ y, y ∈ p' ↔ y = x ∨ y ∈ p) → p'.length = p.length + 1 → Half k p' t' := by
  obtain ⟨A, B, e, e2, e3⟩ := put_eq h.srt (by have := h.len; omega) (hk.may x hx) fun y hy => hne y ((h.mem y).1 hy)
  refine ⟨_, _, e2, fun p' hp' hl => ⟨e3, fun y => ?_, ?_⟩⟩
  · rw [hp' y, ← h.mem y, e]
    simp only [List.mem_append, List.mem_cons]
    constructor
    · rintro (h | h | h)
      · exact .inr (.inl h)
      · exact .inl h
      · exact .inr (.inr h)
    · rintro (h | h | h)
      · exact .inr (.inl h)
      · exact .inl h
      · exact .inr (.inr h)
  · have := h.len
    rw [e] at this
    simp only [List.length_append, List.length_cons] at this ⊢
    omega

theorem order_l2 {k : List TCand} (hk : KOk k) (hn : k.length ≤ 400) : ∀ (r : List TCand) (i : Nat) (t u : TTable), k.drop i = r → i + r.length = k.length → Half k (k.take i) t → Half k (k.drop (k.length - i)) u → ∃ T U, F5_crossroadslaw25_RibOrder_l2 k t u i r = some (.ok (T, U)) ∧ Half k k T ∧ Half k k U
  | [], i, t, u, hr, hi, ht, hu => by
    simp only [List.length_nil, Nat.add_zero] at hi
    subst hi
    rw [List.take_length] at ht
    rw [Nat.sub_self, List.drop_zero] at hu
    exact ⟨t, u, by rw [F5_crossroadslaw25_RibOrder_l2], ht, hu⟩
  | x :: r, i, t, u, hr, hi, ht, hu => by
    simp only [List.length_cons] at hi
    have hik : i < k.length := by omega
    have hx : k[i]? = some x := by
      have := List.getElem?_drop (xs := k) (i := i) (j := 0)
      rw [hr] at this
      simpa using this.symm
    have hxm := List.mem_of_getElem? hx
    have hj : k.length - 1 - i < k.length := by omega
    have hw : IntKind.i64.wrap ((IntKind.i64.wrap ((k.length : Int) - 1)) - (i : Int)) = ((k.length - 1 - i : Nat) : Int) := by
      rw [wi64 (x := (k.length : Int) - 1) (by omega) (by omega), wi64 (by omega) (by omega)]
      omega
    have hf : fuelUp 0 (i : Int) = i := by
      have := fuel_nat (i := 0) (B := i) (by omega) (by omega)
      simpa using this
    have hkey := List.pairwise_iff_getElem.1 hk.key
    have ne1 : ∀ y ∈ k.take i, keyL y ≠ keyL x := by
      intro y hy
      obtain ⟨a, ha, rfl⟩ := List.getElem_of_mem hy
      rw [List.length_take] at ha
      rw [List.getElem_take]
      have := hkey a i (by omega) hik (by omega)
      rw [(List.getElem?_eq_some_iff.1 hx).2] at this
      exact this
    have ne2 : ∀ y ∈ k.drop (k.length - i), keyL y ≠ keyL k[k.length - 1 - i] := by
      intro y hy
      obtain ⟨a, ha, rfl⟩ := List.getElem_of_mem hy
      rw [List.length_drop] at ha
      rw [List.getElem_drop]
      exact fun e => hkey (k.length - 1 - i) (k.length - i + a) hj (by omega) (by omega) e.symm
    obtain ⟨t', e1, p1, q1⟩ := half_put hk hn ht (by rw [List.length_take]; omega) hxm ne1
    obtain ⟨u', e2, p2, q2⟩ := half_put hk hn hu (by rw [List.length_drop]; omega) (List.getElem_mem hj) ne2
    have hd1 : k.take (i + 1) = k.take i ++ [x] := by rw [List.take_add_one, hx]; rfl
    have hd2 : k.drop (k.length - (i + 1)) = k[k.length - 1 - i] :: k.drop (k.length - i) := by
      have e : k.length - (i + 1) = k.length - 1 - i := by omega
      rw [e, List.drop_eq_getElem_cons hj, show k.length - 1 - i + 1 = k.length - i by omega]
    have ht' : Half k (k.take (i + 1)) t' := q1 _ (fun y => by rw [hd1]; simp [or_comm]) (by rw [hd1]; simp)
    have hu' : Half k (k.drop (k.length - (i + 1))) u' := q2 _ (fun y => by rw [hd2]; simp) (by rw [hd2]; simp)
    have hr' : k.drop (i + 1) = r := by
      have := congrArg (List.drop 1) hr
      simpa [List.drop_drop, Nat.add_comm] using this
    rw [F5_crossroadslaw25_RibOrder_l2, p1]
    simp only
    rw [hw, getI_nat (List.getElem?_eq_getElem hj)]
    simp only
    rw [p2]
    simp only
    have hpl := pairs_l1 hk (by omega) hx i 0 (by omega)
    rw [hf]
    have hpl' : F5_crossroadslaw25_RibOrder_l1 k i x i 0 = some (.ok ()) := hpl
    rw [hpl']
    exact order_l2 hk hn r (i + 1) t' u' hr' (by omega) ht' hu'

theorem ribOrder_true (l : List TCand) (p : TPrefix) (ok0 : ∀ y ∈ l, TCand.ok y) (ok1 : TPrefix.ok p) : F5_crossroadslaw25_RibOrder l p = some true := by
  unfold F5_crossroadslaw25_RibOrder
  by_cases hn : 80 < l.length
  · have d : decide (80 < (l.length : Int)) = true := by simp; omega
    rw [d]
    exact alive_true
  · have d : decide (80 < (l.length : Int)) = false := by simp; omega
    rw [d]
    simp only [cond_false]
    cases hs : F6_crossroadslaw25_short l with
    | false => exact alive_true
    | true =>
      have hsh := (short_iff l).1 hs
      simp only [cond_true]
      obtain ⟨k, e1, hk, hkl⟩ := keys_l4 l [] ⟨fun x h => (by cases h), fun x h => (by cases h), fun x h => (by cases h), .nil⟩ (by simp; omega) (fun x hx => (ok0 x hx).1.1) hsh
      simp only [List.length_nil, Nat.zero_add] at hkl
      rw [e1]
      simp only
      obtain ⟨T, U, e2, hT, hU⟩ := order_l2 hk (by omega) k 0 ⟨[]⟩ ⟨[]⟩ rfl (by simp) ⟨.nil, fun x => by simp, by simp⟩ ⟨.nil, fun x => by simp, by simp⟩
      rw [e2]
      simp only
      have hTU : T = U := by
        have : T.L = U.L := row_one hT.srt hU.srt fun x => (hT.mem x).trans (hU.mem x).symm
        cases T; cases U
        simp only at this
        rw [this]
      subst hTU
      have hTk : TOk T := ⟨fun x hx => hk.may x ((hT.mem x).1 hx), hT.srt, fun x hx => hk.u32 x ((hT.mem x).1 hx), by have := hT.len; omega⟩
      obtain ⟨liv, all, hc⟩ := counts hTk
      have hhops : ∀ x ∈ all, x.Hops.length < 1099511627776 := fun x hx => by
        obtain ⟨c, h1, _, h2⟩ := hc.lv.mem x (hc.al.mem x hx)
        have := hk.hops c ((hT.mem c).1 h1)
        have := h2.hops
        omega
      have hrows : F25_crossroadslaw25_rows T.L = some T.L := rows_eq (by have := hT.len; omega) fun x hx => by have := hk.hops x ((hT.mem x).1 hx); omega
      have hlen : decide ((T.L.length : Int) = (k.length : Int)) = true := by have := hT.len; simp; omega
      rcases best_spec hc.eq p with ⟨e, h1, h2, h3⟩ | ⟨h1, h3⟩
      · rw [h3]
        simp only [alive_true, cond_true, hrows, rows_refl, plain_eq (hhops e h1), same_refl, beq_self_eq_true, hlen]
      · rw [h3]
        have hz : F10_crossroadslaw25_plain zC = some zC := plain_eq (by decide)
        simp only [alive_true, cond_true, hrows, rows_refl, hz, same_refl, beq_self_eq_true, hlen]

end Go.Proofs.Ytmfggjebbhdejaa.Abs
