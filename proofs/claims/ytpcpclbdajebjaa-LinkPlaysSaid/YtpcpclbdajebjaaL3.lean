/- Bases of states: what lays one in, and LinkTwice, of the Lean functions. Plain law: no program in sight. -/
import Derived.Test.YtpcpclbdajebjaaL1
import Derived.Test.YtpcpclbdajebjaaB3
set_option linter.unusedVariables false
set_option linter.unusedSimpArgs false
namespace Go.Proofs.Ytpcpclbdajebjaa.Abs
open Go

/-- Whether a state can be written: the program's word and the document's. -/
theorem putLsp_same {x : TLsp} (h : x.Things.length ≤ 100) : (F61_pdu_PutLsp x).2 = (F68_crossroadsref22_PutLsp x).2 := by
  unfold F61_pdu_PutLsp F68_crossroadsref22_PutLsp
  rw [tput_eq]
  have hl := post_tput x.Things h
  generalize F69_tlv_Put x.Things = r at hl
  obtain ⟨t, e⟩ := r
  simp only [F70_pdu_headOf, F71_pdu_isLevel, F72_pdu_isIn, F78_crossroadsref22_short] at hl ⊢
  have e18 : ¬ (18 : Int) = 17 := by decide
  simp only [e18, decide_false, decide_true, cond_true, cond_false]
  have hw : IntKind.i64.wrap (27 + (t.length : Int)) = 27 + (t.length : Int) := wi64 (by omega) (by omega)
  rw [hw]
  by_cases h1 : e = 0
  · simp only [h1, decide_true, cond_true]
    by_cases h2 : x.Level < 1
    · have a1 : ¬ x.Level = 1 := by omega
      have a2 : ¬ x.Level = 2 := by omega
      simp [h2, a1, a2]
    · by_cases h3 : 2 < x.Level
      · have a1 : ¬ x.Level = 1 := by omega
        have a2 : ¬ x.Level = 2 := by omega
        simp [h2, h3, a1, a2]
      · have a0 : (decide (x.Level = 1) || decide (x.Level = 2)) = true := by
          by_cases a1 : x.Level = 1
          · simp [a1]
          · have a2 : x.Level = 2 := by omega
            simp [a2]
        simp only [h2, h3, a0, decide_false, cond_true, cond_false]
        by_cases h4 : 0 ≤ x.Life ∧ x.Life ≤ 65535
        · by_cases h5 : 0 ≤ x.Sum ∧ x.Sum ≤ 65535
          · by_cases h6 : 0 ≤ x.Bits
            · by_cases h7 : x.Bits ≤ 63
              · have b1 : ¬ x.Bits < 0 := by omega
                have b2 : ¬ 63 < x.Bits := by omega
                simp only [h4.1, h4.2, h5.1, h5.2, h6, h7, b1, b2, decide_true, decide_false, cond_true, cond_false, Bool.and_self]
                by_cases h8 : (1465 : Int) < (t.length : Int)
                · have : (1492 : Int) < 27 + (t.length : Int) := by omega
                  simp [h8, this]
                · have : ¬ (1492 : Int) < 27 + (t.length : Int) := by omega
                  simp only [h8, this, decide_false, cond_false]
                  by_cases h9 : x.Level = 2 <;> simp [h9]
              · have b1 : ¬ x.Bits < 0 := by omega
                have b2 : 63 < x.Bits := by omega
                simp [h4.1, h4.2, h5.1, h5.2, h6, h7, b1, b2]
            · have b1 : x.Bits < 0 := by omega
              simp [h4.1, h4.2, h5.1, h5.2, h6, b1]
          · have : (decide (0 ≤ x.Sum) && decide (x.Sum ≤ 65535)) = false := by
              by_cases c1 : 0 ≤ x.Sum
              · have : ¬ x.Sum ≤ 65535 := fun c2 => h5 ⟨c1, c2⟩
                simp [this]
              · simp [c1]
            simp [h4.1, h4.2, this]
        · have : (decide (0 ≤ x.Life) && decide (x.Life ≤ 65535)) = false := by
            by_cases c1 : 0 ≤ x.Life
            · have : ¬ x.Life ≤ 65535 := fun c2 => h4 ⟨c1, c2⟩
              simp [this]
            · simp [c1]
          simp [this]
  · simp [h1]

theorem isOf_eq {x : TLsp} (h : x.Things.length ≤ 100) (b : TBase) : F48_link_Base_isOf b x = F53_crossroadsref23_mayLsp x b.Level := by
  unfold F48_link_Base_isOf F53_crossroadsref23_mayLsp
  have := putLsp_same h
  generalize F61_pdu_PutLsp x = p at this
  generalize F68_crossroadsref22_PutLsp x = q at this
  obtain ⟨p1, p2⟩ := p
  obtain ⟨q1, q2⟩ := q
  simp only at this
  simp [this]

structure InvB (b : TBase) : Prop where
  srt : SrtI TLsp.ID b.L
  sm : SmB b
  lv : 1 ≤ b.Level ∧ b.Level ≤ 2
  mx : 1 ≤ b.Max ∧ b.Max ≤ 1000
  fit : (b.L.length : Int) ≤ b.Max
  ok : ∀ x ∈ b.L, F53_crossroadsref23_mayLsp x b.Level = true

theorem may_l1 {b : TBase} : ∀ (l : List TLsp) (i : Nat), b.L.drop i = l → F46_crossroadsref23_May_l1 b i l = .ok () → (∀ x ∈ l, F53_crossroadsref23_mayLsp x b.Level = true) ∧ ∀ j, i ≤ j → 0 < j → j < b.L.length → (b.L.getD (j - 1) default).ID < (b.L.getD j default).ID
  | [], i, h, _ => by
    refine ⟨fun x hx => (by cases hx), fun j h1 _ h3 => ?_⟩
    have : (b.L.drop i).length = 0 := by rw [h]; rfl
    simp at this
    omega
  | x :: l, i, h, e => by
    unfold F46_crossroadsref23_May_l1 at e
    have hx : b.L.getD i default = x := by
      have : (b.L.drop i)[0]? = some x := by rw [h]; rfl
      rw [List.getElem?_drop, Nat.add_zero] at this
      rw [List.getD_eq_getElem?_getD, this]
      rfl
    have hd : b.L.drop (i + 1) = l := by rw [← List.drop_drop, h]; rfl
    dsimp only at e
    cases hm : F53_crossroadsref23_mayLsp x b.Level with
    | false => rw [hm] at e; simp at e
    | true =>
      rw [hm] at e
      simp only [cond_true] at e
      by_cases h0 : 0 < i
      · have h0' : 0 < (i : Int) := by omega
        simp only [h0', decide_true, cond_true] at e
        by_cases h2 : x.ID ≤ (b.L.getD (i - 1) default).ID
        · simp only [h2, decide_true, cond_true] at e; cases e
        · simp only [h2, decide_false, cond_false] at e
          obtain ⟨g1, g2⟩ := may_l1 l (i + 1) hd e
          refine ⟨fun y hy => ?_, fun j h1 h3 h4 => ?_⟩
          · rcases List.mem_cons.1 hy with rfl | hy
            · exact hm
            · exact g1 y hy
          · rcases Nat.lt_or_eq_of_le h1 with h5 | rfl
            · exact g2 j h5 h3 h4
            · rw [hx]; omega
      · have h0' : ¬ 0 < (i : Int) := by omega
        simp only [h0', decide_false, cond_false] at e
        obtain ⟨g1, g2⟩ := may_l1 l (i + 1) hd e
        refine ⟨fun y hy => ?_, fun j h1 h3 h4 => g2 j (by omega) h3 h4⟩
        rcases List.mem_cons.1 hy with rfl | hy
        · exact hm
        · exact g1 y hy

theorem srt_of_adj {L : List TLsp} (h : ∀ j, 0 < j → j < L.length → (L.getD (j - 1) default).ID < (L.getD j default).ID) : SrtI TLsp.ID L := by
  unfold SrtI
  rw [List.pairwise_iff_getElem]
  have key : ∀ (d i : Nat), i + d + 1 < L.length → (L.getD i default).ID < (L.getD (i + d + 1) default).ID := by
    intro d
    induction d with
    | zero => intro i hi; exact h (i + 1) (by omega) (by omega)
    | succ d ih =>
      intro i hi
      have a1 := ih i (by omega)
      have a2 := h (i + (d + 1) + 1) (by omega) hi
      have : i + (d + 1) + 1 - 1 = i + d + 1 := by omega
      rw [this] at a2
      omega
  intro i j hi hj hij
  have := key (j - i - 1) i (by omega)
  rw [show i + (j - i - 1) + 1 = j by omega] at this
  simpa [List.getD_eq_getElem?_getD, List.getElem?_eq_getElem hi, List.getElem?_eq_getElem hj] using this

theorem inv_small {b : TBase} (h : F16_crossroadslaw23_small b = true) : InvB b := by
  have h1 := post_small b h
  have h2 := (small_ok h).2
  rw [plain_eq] at h2
  obtain ⟨a1, a2, a3, a4, a5, a6⟩ := may_new h2
  obtain ⟨b1, b2⟩ := may_l1 b.L 0 rfl a6
  exact ⟨srt_of_adj fun j hj hl => b2 j (Nat.zero_le _) hj hl, h1, ⟨a1, a2⟩, ⟨a3, a4⟩, a5, b1⟩

/-! ### Where an ID stands -/
theorem cmp64 (x y : Int) : F64_cmp_Compare x y = sgnI x y := by
  unfold F64_cmp_Compare F75_cmp_isNaN sgnI
  by_cases h : x < y
  · simp [h]
  · by_cases h2 : y < x <;> simp [h, h2]

theorem at_eq {b : TBase} (h : SrtI TLsp.ID b.L) (hs : SmB b) (id : Int) : ∃ k : Nat, F49_link_Base_at b id = ((k : Int), decide (∃ x ∈ b.L, x.ID = id)) ∧ AtI TLsp.ID b.L id k := by
  obtain ⟨k, k1, k2⟩ := bsI_at (p := id) h hs.leL
  refine ⟨k, ?_, k2⟩
  unfold F49_link_Base_at
  rw [bs62]
  have hc : (fun (y0 : TLsp) (y1 : Int) => F63_link_Base_at_1 y0 y1) = fun x q => sgnI (TLsp.ID x) q := by
    funext x q
    unfold F63_link_Base_at_1
    exact cmp64 _ _
  rw [hc]
  refine Eq.trans k1 ?_
  simp only [k2.found h]

def zeroLsp : TLsp := ⟨0, 0, 0, 0, 0, 0, []⟩
theorem find_eq {b : TBase} (h : SrtI TLsp.ID b.L) (hs : SmB b) (id : Int) : F47_link_Find b id = match b.L.find? (fun x => decide (x.ID = id)) with | some x => (x, true) | none => (zeroLsp, false) := by
  obtain ⟨k, k1, k2⟩ := at_eq h hs id
  unfold F47_link_Find
  rw [k1]
  cases e : b.L.find? fun x => decide (x.ID = id) with
  | none =>
    have : ¬ ∃ x ∈ b.L, x.ID = id := by
      rintro ⟨x, hx, he⟩
      have := List.find?_eq_none.1 e x hx
      simp [he] at this
    simp only [this, decide_false, cond_false]
    rfl
  | some x =>
    have hx := List.mem_of_find?_eq_some e
    have he : x.ID = id := by simpa using List.find?_some e
    have : ∃ x ∈ b.L, x.ID = id := ⟨x, hx, he⟩
    simp only [this, decide_true, cond_true, Int.toNat_natCast]
    rw [(k2.only h hx he).2]

theorem find_mem {L : List TLsp} (h : SrtI TLsp.ID L) {x : TLsp} (hx : x ∈ L) : L.find? (fun y => decide (y.ID = x.ID)) = some x := by
  cases e : L.find? fun y => decide (y.ID = x.ID) with
  | none =>
    have := List.find?_eq_none.1 e x hx
    simp at this
  | some y =>
    have hy := List.mem_of_find?_eq_some e
    have he : y.ID = x.ID := by simpa using List.find?_some e
    obtain ⟨i, hi, rfl⟩ := List.getElem_of_mem hx
    obtain ⟨j, hj, rfl⟩ := List.getElem_of_mem hy
    have hp := List.pairwise_iff_getElem.1 h
    rcases Nat.lt_trichotomy i j with hij | rfl | hij
    · have := hp i j hi hj hij; omega
    · rfl
    · have := hp j i hj hi hij; omega

/-! ### Put -/
theorem put_not {b : TBase} {x : TLsp} (h : F48_link_Base_isOf b x = false) : F21_link_Put b x = (b, 0, 1) := by
  unfold F21_link_Put
  simp only [h, cond_false]

theorem put_found {b : TBase} {x y : TLsp} (hs : SrtI TLsp.ID b.L) (hsm : SmB b) (h : F48_link_Base_isOf b x = true) (hy : y ∈ b.L) (he : y.ID = x.ID) :
    ∃ k, k < b.L.length ∧ b.L.getD k default = y ∧ AtI TLsp.ID b.L x.ID k ∧ F21_link_Put b x = if F8_link_Compare (entOf x) (entOf y) = 1 then (⟨b.Level, b.Max, b.L.set k x, b.Over⟩, 2, 0) else (b, 1 + F8_link_Compare (entOf x) (entOf y), 0) := by
  obtain ⟨k, k1, k2⟩ := at_eq hs hsm x.ID
  obtain ⟨g1, g2⟩ := k2.only hs hy he
  refine ⟨k, g1, g2, k2, ?_⟩
  unfold F21_link_Put
  have hf : ∃ z ∈ b.L, z.ID = x.ID := ⟨y, hy, he⟩
  simp only [h, k1, hf, decide_true, cond_true, Int.toNat_natCast, g2]
  have e1 : F14_link_Entry x = entOf x := rfl
  have e2 : F14_link_Entry y = entOf y := rfl
  rw [e1, e2]
  have hr := compare_rng (entOf x) (entOf y)
  have hw : IntKind.i64.wrap (1 + F8_link_Compare (entOf x) (entOf y)) = 1 + F8_link_Compare (entOf x) (entOf y) := wi64 (by omega) (by omega)
  rw [hw]
  by_cases hc : F8_link_Compare (entOf x) (entOf y) = 1
  · rw [if_pos hc, hc]; rfl
  · have : ¬ 1 + F8_link_Compare (entOf x) (entOf y) = 2 := by omega
    rw [if_neg hc]
    simp only [this, decide_false, cond_false]

theorem put_none {b : TBase} {x : TLsp} (hs : SrtI TLsp.ID b.L) (hsm : SmB b) (h : F48_link_Base_isOf b x = true) (hn : ¬ ∃ y ∈ b.L, y.ID = x.ID) :
    ∃ k, AtI TLsp.ID b.L x.ID k ∧ F21_link_Put b x = if b.Max ≤ (b.L.length : Int) then (⟨b.Level, b.Max, b.L, true⟩, 0, 8) else (⟨b.Level, b.Max, b.L.take k ++ [x] ++ b.L.drop k, b.Over⟩, 3, 0) := by
  obtain ⟨k, k1, k2⟩ := at_eq hs hsm x.ID
  refine ⟨k, k2, ?_⟩
  unfold F21_link_Put
  simp only [h, k1, hn, decide_false, cond_true, cond_false, ins_, Int.toNat_natCast]
  by_cases hc : b.Max ≤ (b.L.length : Int)
  · simp only [hc, decide_true, cond_true, if_true]
  · simp only [hc, decide_false, cond_false, if_false]

/-- What 'Put' leaves: sorted, and with the one that was put, or one that is no older. -/
theorem put_srt {b : TBase} {x : TLsp} (hs : SrtI TLsp.ID b.L) (hsm : SmB b) : SrtI TLsp.ID (F21_link_Put b x).1.L ∧ (F21_link_Put b x).1.Level = b.Level ∧ (F21_link_Put b x).1.Max = b.Max := by
  cases h : F48_link_Base_isOf b x with
  | false => rw [put_not h]; exact ⟨hs, rfl, rfl⟩
  | true =>
    by_cases hf : ∃ y ∈ b.L, y.ID = x.ID
    · obtain ⟨y, hy, he⟩ := hf
      obtain ⟨k, k1, k2, k3, k4⟩ := put_found hs hsm h hy he
      rw [k4]
      split
      · exact ⟨k3.set hs k1 (by rw [k2, he]) rfl, rfl, rfl⟩
      · exact ⟨hs, rfl, rfl⟩
    · obtain ⟨k, k3, k4⟩ := put_none hs hsm h hf
      rw [k4]
      split
      · exact ⟨hs, rfl, rfl⟩
      · exact ⟨k3.ins hs hf rfl, rfl, rfl⟩

theorem putMem {b : TBase} {x : TLsp} {k : Nat} (hk : k < b.L.length) : x ∈ b.L.set k x := List.mem_set hk x

/-- Put a second time. -/
theorem put_twice {b : TBase} {x : TLsp} (hs : SrtI TLsp.ID b.L) (hsm : SmB b) (hm : b.Max ≤ 1000) (hx : x.Things.length ≤ 100) :
    ∃ m, F21_link_Put (F21_link_Put b x).1 x = ((F21_link_Put b x).1, m, (F21_link_Put b x).2.2) ∧ ((F21_link_Put b x).2.2 ≠ 0 ∨ ((F21_link_Put b x).2.1 = 0 ∧ m = 0) ∨ (0 < (F21_link_Put b x).2.1 ∧ m = 1)) := by
  obtain ⟨s1, s2, s3⟩ := put_srt (x := x) hs hsm
  have s4 := (post_Put b x hsm hm hx).1
  cases h : F48_link_Base_isOf b x with
  | false =>
    rw [put_not h]
    exact ⟨0, put_not h, .inl (by show (1 : Int) ≠ 0; decide)⟩
  | true =>
    have hof : ∀ c : TBase, c.Level = b.Level → F48_link_Base_isOf c x = true := by
      intro c hc
      rw [isOf_eq hx] at h ⊢
      rw [hc]
      exact h
    have again : ∀ c : TBase, c.Level = b.Level → SrtI TLsp.ID c.L → SmB c → x ∈ c.L → F21_link_Put c x = (c, 1, 0) := by
      intro c hc h1 h2 h3
      obtain ⟨k, k1, k2, k3, k4⟩ := put_found h1 h2 (hof c hc) h3 rfl
      rw [k4, compare_self, if_neg (by decide)]
      rfl
    by_cases hf : ∃ y ∈ b.L, y.ID = x.ID
    · obtain ⟨y, hy, he⟩ := hf
      obtain ⟨k, k1, k2, k3, k4⟩ := put_found hs hsm h hy he
      by_cases hc : F8_link_Compare (entOf x) (entOf y) = 1
      · rw [if_pos hc] at k4
        rw [k4] at s1 s4 ⊢
        exact ⟨1, again _ rfl s1 s4 (putMem k1), .inr (.inr ⟨(by show (0 : Int) < 2; decide), rfl⟩)⟩
      · rw [if_neg hc] at k4
        have hr := compare_rng (entOf x) (entOf y)
        rw [k4]
        refine ⟨1 + F8_link_Compare (entOf x) (entOf y), k4, .inr ?_⟩
        show (1 + F8_link_Compare (entOf x) (entOf y) = 0 ∧ 1 + F8_link_Compare (entOf x) (entOf y) = 0) ∨ (0 < 1 + F8_link_Compare (entOf x) (entOf y) ∧ 1 + F8_link_Compare (entOf x) (entOf y) = 1)
        omega
    · obtain ⟨k, k3, k4⟩ := put_none hs hsm h hf
      by_cases hc : b.Max ≤ (b.L.length : Int)
      · rw [if_pos hc] at k4
        rw [k4] at s4 ⊢
        refine ⟨0, ?_, .inl (by show (8 : Int) ≠ 0; decide)⟩
        obtain ⟨k', _, k5⟩ := put_none (b := ⟨b.Level, b.Max, b.L, true⟩) hs s4 (hof _ rfl) hf
        rw [if_pos hc] at k5
        exact k5
      · rw [if_neg hc] at k4
        rw [k4] at s1 s4 ⊢
        exact ⟨1, again _ rfl s1 s4 (by simp), .inr (.inr ⟨(by show (0 : Int) < 3; decide), rfl⟩)⟩

/-! ### A base against its own list -/
theorem findM_set {M : List (Int × TEntry)} (q k : Int) (v : TEntry) : findM (setM M k v) q = if q = k then some v else findM M q := by
  induction M with
  | nil => by_cases h : q = k <;> simp [setM, findM, h]
  | cons a M ih =>
    obtain ⟨a, b⟩ := a
    by_cases h : k = a
    · subst h
      by_cases h2 : q = k <;> simp [setM, findM, h2]
    · by_cases h2 : q = a
      · subst h2
        have : ¬ q = k := fun e => h e.symm
        simp [setM, findM, h, this]
      · simp [setM, findM, h, h2, ih]

theorem own_l3 {c : TBase} (hs : SrtI TLsp.ID c.L) (hsm : SmB c) : ∀ (l : List TEntry) (told : List (Int × TEntry)) (ask : List TEntry), (∀ e ∈ l, ∃ x ∈ c.L, entOf x = e) → (∀ q v, findM told q = some v → ∃ x ∈ c.L, x.ID = q ∧ entOf x = v) →
    ∃ t, F18_link_Differ_l3 c told ask l = (t, ask) ∧ (∀ q v, findM t q = some v → ∃ x ∈ c.L, x.ID = q ∧ entOf x = v) ∧ (∀ e ∈ l, (findM t e.ID).isSome = true) ∧ (∀ q, (findM told q).isSome = true → (findM t q).isSome = true)
  | [], told, ask, _, ht => ⟨told, (by unfold F18_link_Differ_l3; rfl), ht, fun e he => (by cases he), fun q h => h⟩
  | e :: l, told, ask, hl, ht => by
    unfold F18_link_Differ_l3
    obtain ⟨x, hx, rfl⟩ := hl e List.mem_cons_self
    have hl' : ∀ e ∈ l, ∃ x ∈ c.L, entOf x = e := fun e he => hl e (List.mem_cons_of_mem _ he)
    cases hm : (findM told (entOf x).ID).isSome with
    | true =>
      simp only [cond_true]
      obtain ⟨t, t1, t2, t3, t4⟩ := own_l3 hs hsm l told ask hl' ht
      refine ⟨t, t1, t2, fun e he => ?_, t4⟩
      rcases List.mem_cons.1 he with rfl | he
      · exact t4 _ hm
      · exact t3 e he
    | false =>
      simp only [cond_false]
      have hfd : F47_link_Find c (entOf x).ID = (x, true) := by
        rw [find_eq hs hsm]
        have : (entOf x).ID = x.ID := rfl
        rw [this, find_mem hs hx]
      have hset : ∀ q v, findM (setM told (entOf x).ID (entOf x)) q = some v → ∃ x ∈ c.L, x.ID = q ∧ entOf x = v := by
        intro q v hq
        rw [findM_set] at hq
        by_cases e : q = (entOf x).ID
        · rw [if_pos e] at hq
          exact ⟨x, hx, e.symm, Option.some.inj hq⟩
        · rw [if_neg e] at hq
          exact ht q v hq
      obtain ⟨t, t1, t2, t3, t4⟩ := own_l3 hs hsm l (setM told (entOf x).ID (entOf x)) ask hl' hset
      refine ⟨t, ?_, t2, fun e he => ?_, fun q hq => t4 q ?_⟩
      · rw [hfd]
        have h0 : F8_link_Compare (entOf x) (F14_link_Entry x) = 0 := compare_self (entOf x)
        have h1 : ¬ (0 : Int) < 0 := by decide
        simp only [cond_true, h0, h1, decide_false, cond_false, t1]
        cases decide ((entOf x).Life = 0) <;> rfl
      · rcases List.mem_cons.1 he with rfl | he
        · refine t4 _ ?_
          rw [findM_set, if_pos rfl]
          rfl
        · exact t3 e he
      · rw [findM_set]
        by_cases e : q = (entOf x).ID
        · rw [if_pos e]; rfl
        · rw [if_neg e]; exact hq

theorem own_l2 {c : TBase} (hs : SrtI TLsp.ID c.L) (x : TList) {told : List (Int × TEntry)} (ht : ∀ q v, findM told q = some v → ∃ x ∈ c.L, x.ID = q ∧ entOf x = v) : ∀ (l : List TEntry) (send : List Int), (∀ e ∈ l, ∃ x ∈ c.L, entOf x = e) → (∀ e ∈ l, (findM told e.ID).isSome = true) → F18_link_Differ_l2 x told send l = send
  | [], send, _, _ => by unfold F18_link_Differ_l2; rfl
  | e :: l, send, hl, hm => by
    unfold F18_link_Differ_l2
    have hme := hm e List.mem_cons_self
    obtain ⟨y, hy, rfl⟩ := hl e List.mem_cons_self
    obtain ⟨v, hv⟩ := Option.isSome_iff_exists.1 hme
    obtain ⟨z, hz, h1, h2⟩ := ht _ _ hv
    have hzy : z = y := by
      have a1 := find_mem hs hz
      have a2 := find_mem hs hy
      have : z.ID = y.ID := h1
      rw [this, a2] at a1
      exact (Option.some.inj a1).symm
    subst hzy
    rw [hv, ← h2]
    have h0 : ¬ (0 : Int) < 0 := by decide
    simp only [Option.isSome_some, Option.getD_some, cond_true, compare_self, h0, decide_false, cond_false]
    exact own_l2 hs x ht l send (fun e he => hl e (List.mem_cons_of_mem _ he)) (fun e he => hm e (List.mem_cons_of_mem _ he))

theorem differ_own {c : TBase} (hs : SrtI TLsp.ID c.L) (hsm : SmB c) (x : TList) (hx : x.L = F17_link_List c 0 18446744073709551615) : F18_link_Differ c x = ([], []) := by
  have hm : ∀ e ∈ F17_link_List c 0 18446744073709551615, ∃ y ∈ c.L, entOf y = e := by
    intro e he
    rw [list_is] at he
    obtain ⟨y, hy, rfl⟩ := List.mem_map.1 he
    exact ⟨y, (List.mem_filter.1 hy).1, rfl⟩
  unfold F18_link_Differ
  rw [hx]
  obtain ⟨t, t1, t2, t3, _⟩ := own_l3 hs hsm (F17_link_List c 0 18446744073709551615) [] [] hm (fun q v h => by cases h)
  rw [t1]
  dsimp only
  rw [own_l2 hs x t2 _ [] hm t3]

/-! ### Alike is equal -/
theorem things67_l1 (s : List TThing) : ∀ (l : List TThing) (i : Nat), l.length + i = s.length → l = s.drop i → F67_crossroadsref21_Things_l1 s i l = .ok ()
  | [], i, _, _ => by unfold F67_crossroadsref21_Things_l1; rfl
  | x :: l, i, h, e => by
    unfold F67_crossroadsref21_Things_l1
    have hx : s.getD i default = x := by
      have : (s.drop i)[0]? = some x := by rw [← e]; rfl
      rw [List.getElem?_drop, Nat.add_zero] at this
      rw [List.getD_eq_getElem?_getD, this]
      rfl
    have hl : l = s.drop (i + 1) := by rw [← List.drop_drop, ← e]; rfl
    simp only [hx, decide_true, cond_true, beq_self_eq_true]
    exact things67_l1 s l (i + 1) (by simp at h; omega) hl
theorem sameLsp_self (x : TLsp) : F52_crossroadsref22_SameLsp x x = true := by
  unfold F52_crossroadsref22_SameLsp F67_crossroadsref21_Things
  rw [things67_l1 x.Things x.Things 0 (by omega) rfl]
  simp
theorem same_l1 (b : TBase) : ∀ (l : List TLsp) (i : Nat), l.length + i = b.L.length → l = b.L.drop i → F22_crossroadsref23_Same_l1 b i l = .ok ()
  | [], i, _, _ => by unfold F22_crossroadsref23_Same_l1; rfl
  | x :: l, i, h, e => by
    unfold F22_crossroadsref23_Same_l1
    have hx : b.L.getD i default = x := by
      have : (b.L.drop i)[0]? = some x := by rw [← e]; rfl
      rw [List.getElem?_drop, Nat.add_zero] at this
      rw [List.getD_eq_getElem?_getD, this]
      rfl
    have hl : l = b.L.drop (i + 1) := by rw [← List.drop_drop, ← e]; rfl
    simp only [hx, sameLsp_self, cond_true]
    exact same_l1 b l (i + 1) (by simp at h; omega) hl
theorem same_self (b : TBase) : F22_crossroadsref23_Same b b = true := by
  unfold F22_crossroadsref23_Same
  rw [same_l1 b b.L 0 (by omega) rfl]
  simp

theorem linkTwice_true (b : TBase) (x : TLsp) (h0 : TBase.ok b) (h1 : TLsp.ok x) : F6_crossroadslaw23_LinkTwice b x = true := by
  unfold F6_crossroadslaw23_LinkTwice
  cases hb : F16_crossroadslaw23_small b with
  | false => simp only [cond_false, alive_true]
  | true =>
    cases hx : F12_crossroadslaw23_little x with
    | false => simp only [cond_true, cond_false, alive_true]
    | true =>
      have hi := inv_small hb
      have hx' := post_little x hx
      obtain ⟨m, p1, p2⟩ := put_twice hi.srt hi.sm hi.mx.2 hx'
      obtain ⟨s1, _, _⟩ := put_srt (x := x) hi.srt hi.sm
      have s4 := (post_Put b x hi.sm hi.mx.2 hx').1
      simp only [cond_true, p1]
      generalize F21_link_Put b x = r at p1 p2 s1 s4
      obtain ⟨c, n, e⟩ := r
      dsimp only at p1 p2 s1 s4 ⊢
      rw [differ_own s1 s4 _ rfl]
      have hz : IntKind.i64.wrap (((([] : List Int).length : Nat) : Int) + ((([] : List TEntry).length : Nat) : Int)) = 0 := by decide
      have hz2 : ¬ (0 : Int) < 0 := by decide
      simp only [same_self, hz, hz2, decide_true, decide_false, cond_true, cond_false, alive_true, Bool.true_and]
      rcases p2 with p2 | ⟨p2, p3⟩ | ⟨p2, p3⟩
      · simp [p2]
      · subst p2 p3
        by_cases he : e = 0 <;> simp [he]
      · subst p3
        have hn : ¬ n = 0 := by omega
        by_cases he : e = 0 <;> simp [he, hn, p2]
end Go.Proofs.Ytpcpclbdajebjaa.Abs
