/- LinkPlays, of the Lean functions. Plain law: no program in sight. -/
import Derived.Test.YtpcpclbdajebjaaL3
set_option linter.unusedVariables false
set_option linter.unusedSimpArgs false
namespace Go.Proofs.Ytpcpclbdajebjaa.Abs
open Go

def rngB (b : TBase) : Prop := ∀ x ∈ b.L, 0 ≤ x.ID ∧ x.ID ≤ 18446744073709551615
theorem list_all {b : TBase} (h : rngB b) : F17_link_List b 0 18446744073709551615 = b.L.map entOf := by
  rw [list_is, List.filter_eq_self.2]
  intro x hx
  exact decide_eq_true (h x hx)

theorem may_life {x : TLsp} {l : Int} (h : F53_crossroadsref23_mayLsp x l = true) : (0 ≤ x.Life ∧ x.Life ≤ 65535) ∧ ∀ n, 0 ≤ n → n ≤ 65535 → F53_crossroadsref23_mayLsp ⟨x.Level, n, x.ID, x.Seq, x.Sum, x.Bits, x.Things⟩ l = true := by
  unfold F53_crossroadsref23_mayLsp F68_crossroadsref22_PutLsp F78_crossroadsref22_short at *
  dsimp only at h ⊢
  generalize F77_crossroadsref21_Put x.Things = r at h ⊢
  obtain ⟨t, e⟩ := r
  dsimp only at h ⊢
  by_cases e0 : e = 0
  case neg => simp [e0] at h
  by_cases e1 : x.Level < 1
  case pos => simp [e0, e1] at h
  by_cases e2 : 2 < x.Level
  case pos => simp [e0, e1, e2] at h
  by_cases e3 : 0 ≤ x.Life
  case neg => simp [e0, e1, e2, e3] at h
  by_cases e4 : x.Life ≤ 65535
  case neg => simp [e0, e1, e2, e3, e4] at h
  refine ⟨⟨e3, e4⟩, fun n n0 n1 => ?_⟩
  simp only [e0, e1, e2, e3, e4, n0, n1, decide_true, decide_false, cond_true, cond_false, Bool.and_self] at h ⊢
  cases hs : decide (0 ≤ x.Sum) && decide (x.Sum ≤ 65535) with
  | false => rw [hs] at h; simp at h
  | true =>
    rw [hs] at h
    simp only [cond_true] at h ⊢
    by_cases e5 : x.Bits < 0
    case pos => simp [e5] at h
    by_cases e6 : 63 < x.Bits
    case pos => simp [e5, e6] at h
    by_cases e7 : (1465 : Int) < (t.length : Int)
    case pos => simp [e5, e6, e7] at h
    simp only [e5, e6, e7, decide_true, decide_false, cond_true, cond_false] at h ⊢
    exact h

/-! ### Find, into, Put -/
theorem rfind_is (b : TBase) (id : Int) : F54_crossroadsref23_Find b id = match b.L.find? (fun x => decide (x.ID = id)) with | some x => (x, true) | none => (zeroLsp, false) := by
  unfold F54_crossroadsref23_Find
  rw [refFind_l1]
  cases b.L.find? fun x => decide (x.ID = id) <;> rfl

theorem into_true (x : TLsp) : ∀ (l out : List TLsp), (∀ y ∈ l, y.ID ≠ x.ID) → F55_crossroadsref23_into_l1 x true out l = (true, out ++ l)
  | [], out, _ => by unfold F55_crossroadsref23_into_l1; simp
  | y :: l, out, h => by
    unfold F55_crossroadsref23_into_l1
    have h1 := h y List.mem_cons_self
    simp only [h1, decide_false, cond_true, cond_false]
    rw [into_true x l _ fun z hz => h z (List.mem_cons_of_mem _ hz)]
    simp
theorem into_lt (x : TLsp) : ∀ (A B out : List TLsp), (∀ y ∈ A, y.ID < x.ID) → F55_crossroadsref23_into_l1 x false out (A ++ B) = F55_crossroadsref23_into_l1 x false (out ++ A) B
  | [], B, out, _ => by simp
  | y :: A, B, out, h => by
    rw [List.cons_append]
    conv => lhs; unfold F55_crossroadsref23_into_l1
    have h1 := h y List.mem_cons_self
    have h2 : ¬ x.ID ≤ y.ID := by omega
    have h3 : ¬ y.ID = x.ID := by omega
    simp only [h2, h3, decide_false, cond_false]
    rw [into_lt x A B _ fun z hz => h z (List.mem_cons_of_mem _ hz)]
    simp
theorem into_found {b : TBase} {x : TLsp} {k : Nat} (hs : SrtI TLsp.ID b.L) (h : AtI TLsp.ID b.L x.ID k) (hk : k < b.L.length) (he : (b.L.getD k default).ID = x.ID) : F55_crossroadsref23_into b x = ⟨b.Level, b.Max, b.L.set k x, b.Over⟩ := by
  unfold F55_crossroadsref23_into
  have e : F55_crossroadsref23_into_l1 x false [] b.L = (true, b.L.set k x) := by
    conv => lhs; rw [← List.take_append_drop k b.L, dropI hk]
    rw [into_lt x _ _ _ h.lo]
    unfold F55_crossroadsref23_into_l1
    have h2 : x.ID ≤ (b.L.getD k default).ID := by omega
    simp only [h2, he, decide_true, cond_true, cond_false]
    rw [into_true x _ _ fun y hy => by have := h.rest hs hk he y hy; omega, setI_eq hk]
    simp
  rw [e]
  rfl
theorem into_none {b : TBase} {x : TLsp} {k : Nat} (hs : SrtI TLsp.ID b.L) (h : AtI TLsp.ID b.L x.ID k) (hn : ¬ ∃ y ∈ b.L, y.ID = x.ID) : F55_crossroadsref23_into b x = ⟨b.Level, b.Max, b.L.take k ++ [x] ++ b.L.drop k, b.Over⟩ := by
  unfold F55_crossroadsref23_into
  have hg := h.gt hs hn
  have e0 : F55_crossroadsref23_into_l1 x false [] b.L = F55_crossroadsref23_into_l1 x false (b.L.take k) (b.L.drop k) := by
    conv => lhs; rw [← List.take_append_drop k b.L]
    rw [into_lt x _ _ _ h.lo]
    rfl
  rw [e0]
  cases hd : b.L.drop k with
  | nil =>
    unfold F55_crossroadsref23_into_l1
    simp
  | cons y B =>
    rw [hd] at hg
    have h1 := hg y List.mem_cons_self
    unfold F55_crossroadsref23_into_l1
    have h2 : x.ID ≤ y.ID := by omega
    have h3 : ¬ y.ID = x.ID := by omega
    simp only [h2, h3, decide_true, decide_false, cond_true, cond_false]
    rw [into_true x _ _ fun z hz => by have := hg z (List.mem_cons_of_mem _ hz); omega]
    simp

theorem rput_eq {b : TBase} {x : TLsp} (hs : SrtI TLsp.ID b.L) (hsm : SmB b) (hx : x.Things.length ≤ 100) : F29_crossroadsref23_Put b x = F21_link_Put b x := by
  cases h : F48_link_Base_isOf b x with
  | false =>
    rw [put_not h]
    rw [isOf_eq hx] at h
    unfold F29_crossroadsref23_Put
    simp only [h, cond_false]
  | true =>
    have h' := h
    rw [isOf_eq hx] at h'
    by_cases hf : ∃ y ∈ b.L, y.ID = x.ID
    · obtain ⟨y, hy, he⟩ := hf
      obtain ⟨k, k1, k2, k3, k4⟩ := put_found hs hsm h hy he
      rw [k4]
      unfold F29_crossroadsref23_Put
      have e1 : F54_crossroadsref23_Find b x.ID = (y, true) := by
        rw [rfind_is, ← he, find_mem hs hy]
      have e2 : ∀ z : TLsp, F56_crossroadsref23_Entry z = entOf z := fun _ => rfl
      have hr := compare_rng (entOf x) (entOf y)
      have hw : IntKind.i64.wrap (F8_link_Compare (entOf x) (entOf y) + 1) = 1 + F8_link_Compare (entOf x) (entOf y) := by rw [wi64 (by omega) (by omega)]; omega
      simp only [h', e1, e2, refCompare_eq, cond_true, hw]
      by_cases hc : F8_link_Compare (entOf x) (entOf y) = 1
      · have : (0 : Int) < F8_link_Compare (entOf x) (entOf y) := by omega
        rw [if_pos hc]
        simp only [this, decide_true, cond_true, into_found hs k3 k1 (by rw [k2, he])]
      · have : ¬ (0 : Int) < F8_link_Compare (entOf x) (entOf y) := by omega
        rw [if_neg hc]
        simp only [this, decide_false, cond_false]
    · obtain ⟨k, k3, k4⟩ := put_none hs hsm h hf
      rw [k4]
      unfold F29_crossroadsref23_Put
      have e1 : F54_crossroadsref23_Find b x.ID = (zeroLsp, false) := by
        rw [rfind_is, List.find?_eq_none.2]
        intro y hy
        simpa using fun e => hf ⟨y, hy, e⟩
      simp only [h', e1, cond_true, cond_false, into_none hs k3 hf]
      by_cases hc : b.Max ≤ (b.L.length : Int)
      · simp only [hc, decide_true, cond_true, if_true]
      · simp only [hc, decide_false, cond_false, if_false]

/-! ### What stays -/
structure InvP (b : TBase) : Prop where
  inv : InvB b
  rng : rngB b

theorem put_mem {b : TBase} {x : TLsp} (hs : SrtI TLsp.ID b.L) (hsm : SmB b) : ∀ y ∈ (F21_link_Put b x).1.L, y ∈ b.L ∨ (y = x ∧ F48_link_Base_isOf b x = true) := by
  cases h : F48_link_Base_isOf b x with
  | false => rw [put_not h]; exact fun y hy => .inl hy
  | true =>
    by_cases hf : ∃ y ∈ b.L, y.ID = x.ID
    · obtain ⟨y, hy, he⟩ := hf
      obtain ⟨k, k1, k2, k3, k4⟩ := put_found hs hsm h hy he
      rw [k4]
      split
      · intro z hz
        rcases List.mem_or_eq_of_mem_set hz with h1 | h1
        · exact .inl h1
        · exact .inr ⟨h1, rfl⟩
      · exact fun y hy => .inl hy
    · obtain ⟨k, k3, k4⟩ := put_none hs hsm h hf
      rw [k4]
      split
      · exact fun y hy => .inl hy
      · intro z hz
        simp only [List.mem_append, List.mem_singleton] at hz
        rcases hz with (hz | hz) | hz
        · exact .inl (List.mem_of_mem_take hz)
        · exact .inr ⟨hz, rfl⟩
        · exact .inl (List.mem_of_mem_drop hz)
theorem put_fit {b : TBase} {x : TLsp} (hs : SrtI TLsp.ID b.L) (hsm : SmB b) (hf : (b.L.length : Int) ≤ b.Max) : ((F21_link_Put b x).1.L.length : Int) ≤ b.Max := by
  cases h : F48_link_Base_isOf b x with
  | false => rw [put_not h]; exact hf
  | true =>
    by_cases hy : ∃ y ∈ b.L, y.ID = x.ID
    · obtain ⟨y, hy, he⟩ := hy
      obtain ⟨k, k1, k2, k3, k4⟩ := put_found hs hsm h hy he
      rw [k4]
      split
      · simpa using hf
      · exact hf
    · obtain ⟨k, k3, k4⟩ := put_none hs hsm h hy
      rw [k4]
      split
      · exact hf
      · have := k3.le
        simp
        omega
theorem invP_put {b : TBase} {x : TLsp} (h : InvP b) (hx : x.Things.length ≤ 100) (hr : 0 ≤ x.ID ∧ x.ID ≤ 18446744073709551615) : InvP (F21_link_Put b x).1 := by
  obtain ⟨h, hg⟩ := h
  obtain ⟨s1, s2, s3⟩ := put_srt (x := x) h.srt h.sm
  have hm := put_mem (x := x) h.srt h.sm
  refine ⟨⟨s1, (post_Put b x h.sm h.mx.2 hx).1, by rw [s2]; exact h.lv, by rw [s3]; exact h.mx, by rw [s3]; exact put_fit h.srt h.sm h.fit, fun y hy => ?_⟩, fun y hy => ?_⟩
  · rw [s2]
    rcases hm y hy with h1 | ⟨h1, h2⟩
    · exact h.ok y h1
    · rw [h1, ← isOf_eq hx]; exact h2
  · rcases hm y hy with h1 | ⟨h1, h2⟩
    · exact hg y h1
    · rw [h1]; exact hr

/-! ### Tick -/
def tk (by_ : Int) (x : TLsp) : TLsp := ⟨x.Level, if 0 < by_ then max_ 0 (IntKind.i64.wrap (x.Life - (min_ by_ 65535))) else x.Life, x.ID, x.Seq, x.Sum, x.Bits, x.Things⟩
theorem life_eq {by_ n : Int} (hb : 0 < by_) (h0 : 0 ≤ n) (h1 : n ≤ 65535) : max_ 0 (IntKind.i64.wrap (n - (min_ by_ 65535))) = IntKind.i64.wrap (n - min_ by_ n) := by
  have e1 : IntKind.i64.wrap (n - (min_ by_ 65535)) = n - min_ by_ 65535 := by
    have : 0 < min_ by_ 65535 ∧ min_ by_ 65535 ≤ 65535 := by unfold min_; split <;> omega
    exact wi64 (by omega) (by omega)
  have e2 : IntKind.i64.wrap (n - min_ by_ n) = n - min_ by_ n := by
    have : 0 ≤ min_ by_ n ∧ min_ by_ n ≤ n := by unfold min_; split <;> omega
    exact wi64 (by omega) (by omega)
  rw [e1, e2]
  unfold max_ min_
  (repeat' split) <;> omega
theorem life_rng {by_ n : Int} (hb : 0 < by_) (h0 : 0 ≤ n) (h1 : n ≤ 65535) : 0 ≤ max_ 0 (IntKind.i64.wrap (n - (min_ by_ 65535))) ∧ max_ 0 (IntKind.i64.wrap (n - (min_ by_ 65535))) ≤ 65535 := by
  have e1 : IntKind.i64.wrap (n - (min_ by_ 65535)) = n - min_ by_ 65535 := by
    have : 0 < min_ by_ 65535 ∧ min_ by_ 65535 ≤ 65535 := by unfold min_; split <;> omega
    exact wi64 (by omega) (by omega)
  rw [e1]
  unfold max_ min_
  (repeat' split) <;> omega

theorem getD_mid (P k : List TLsp) (x : TLsp) : (P ++ x :: k).getD P.length default = x := by simp [List.getD_eq_getElem?_getD]
theorem set_mid (P k : List TLsp) (x y : TLsp) : (P ++ x :: k).set P.length y = (P ++ [y]) ++ k := by simp
theorem tick_eq (by_ : Int) : ∀ (k P : List TLsp) (out : List Int), (∀ x ∈ k, 0 ≤ x.Life ∧ x.Life ≤ 65535) → F26_link_Tick_l1 by_ (P ++ k) out P.length k = F27_crossroadsref23_Tick_l1 by_ P out k ∧ (F27_crossroadsref23_Tick_l1 by_ P out k).1 = P ++ k.map (tk by_)
  | [], P, out, _ => by unfold F26_link_Tick_l1 F27_crossroadsref23_Tick_l1; simp
  | x :: k, P, out, h => by
    obtain ⟨x0, x1⟩ := h x List.mem_cons_self
    have h' : ∀ x ∈ k, 0 ≤ x.Life ∧ x.Life ≤ 65535 := fun y hy => h y (List.mem_cons_of_mem _ hy)
    have ih := fun y o => tick_eq by_ k (P ++ [y]) o h'
    simp only [List.length_append, List.length_cons, List.length_nil, Nat.zero_add] at ih
    have keep : P ++ x :: k = (P ++ [x]) ++ k := by simp
    unfold F26_link_Tick_l1 F27_crossroadsref23_Tick_l1
    simp only [getD_mid, set_mid]
    by_cases hb : 0 < by_
    · have hn := life_eq hb x0 x1
      have ht : tk by_ x = ⟨x.Level, IntKind.i64.wrap (x.Life - min_ by_ x.Life), x.ID, x.Seq, x.Sum, x.Bits, x.Things⟩ := by
        unfold tk; rw [if_pos hb, hn]
      have hg : ∀ y : TLsp, ((P ++ [y]) ++ k).getD P.length default = y := fun y => by simp [List.getD_eq_getElem?_getD]
      simp only [hb, hn, hg, decide_true, cond_true]
      rw [List.map_cons, ht]
      by_cases hl : 0 < x.Life
      · by_cases hz : IntKind.i64.wrap (x.Life - min_ by_ x.Life) = 0
        · simp only [hl, hz, decide_true, cond_true]
          obtain ⟨g1, g2⟩ := ih ⟨x.Level, 0, x.ID, x.Seq, x.Sum, x.Bits, x.Things⟩ (out ++ [x.ID])
          exact ⟨g1, by rw [g2]; simp⟩
        · simp only [hl, hz, decide_true, decide_false, cond_true, cond_false]
          obtain ⟨g1, g2⟩ := ih ⟨x.Level, IntKind.i64.wrap (x.Life - min_ by_ x.Life), x.ID, x.Seq, x.Sum, x.Bits, x.Things⟩ out
          exact ⟨g1, by rw [g2]; simp⟩
      · simp only [hl, decide_false, cond_false]
        obtain ⟨g1, g2⟩ := ih ⟨x.Level, IntKind.i64.wrap (x.Life - min_ by_ x.Life), x.ID, x.Seq, x.Sum, x.Bits, x.Things⟩ out
        cases decide (IntKind.i64.wrap (x.Life - min_ by_ x.Life) = 0) <;> simp only [cond_true, cond_false] <;> exact ⟨g1, by rw [g2]; simp⟩
    · have ht : tk by_ x = x := by unfold tk; rw [if_neg hb]
      simp only [hb, decide_false, cond_false]
      rw [List.map_cons, ht, keep]
      obtain ⟨g1, g2⟩ := ih x out
      by_cases hl : 0 < x.Life
      · have hz : ¬ x.Life = 0 := by omega
        simp only [hl, hz, decide_true, decide_false, cond_true, cond_false]
        exact ⟨g1, by rw [g2]; simp⟩
      · simp only [hl, decide_false, cond_false]
        cases decide (x.Life = 0) <;> simp only [cond_true, cond_false] <;> exact ⟨g1, by rw [g2]; simp⟩

theorem rtick_eq {b : TBase} (by_ : Int) (h : InvB b) : F27_crossroadsref23_Tick b by_ = F26_link_Tick b by_ ∧ (F26_link_Tick b by_).1.L = b.L.map (tk by_) := by
  obtain ⟨g1, g2⟩ := tick_eq by_ b.L [] [] fun x hx => (may_life (h.ok x hx)).1
  unfold F27_crossroadsref23_Tick F26_link_Tick
  simp only [List.nil_append, List.length_nil] at g1 g2
  rw [← g1]
  refine ⟨rfl, ?_⟩
  rw [g1]
  exact g2
theorem invP_tick {b : TBase} (by_ : Int) (h : InvP b) : InvP (F26_link_Tick b by_).1 := by
  obtain ⟨h, hg⟩ := h
  have e := (rtick_eq by_ h).2
  have e1 : (F26_link_Tick b by_).1.Level = b.Level := rfl
  have e2 : (F26_link_Tick b by_).1.Max = b.Max := rfl
  refine ⟨⟨?_, post_Tick b by_ h.sm, h.lv, h.mx, ?_, fun y hy => ?_⟩, fun y hy => ?_⟩
  · rw [e]
    unfold SrtI
    rw [List.pairwise_map]
    exact h.srt
  · rw [e, List.length_map]; exact h.fit
  · rw [e, List.mem_map] at hy
    obtain ⟨x, hx, rfl⟩ := hy
    obtain ⟨⟨a1, a2⟩, a3⟩ := may_life (h.ok x hx)
    rw [e1]
    unfold tk
    by_cases hb : 0 < by_
    · rw [if_pos hb]
      obtain ⟨l1, l2⟩ := life_rng hb a1 a2
      exact a3 _ l1 l2
    · rw [if_neg hb]
      exact a3 _ a1 a2
  · rw [e, List.mem_map] at hy
    obtain ⟨x, hx, rfl⟩ := hy
    exact hg x hx

/-! ### Differ -/
theorem told_l1 (id : Int) : ∀ l : List TEntry, F57_crossroadsref23_told_l1 id l = match l.find? (fun x => decide (x.ID = id)) with | some x => .error (x, true) | none => .ok ()
  | [] => by simp [F57_crossroadsref23_told_l1]
  | x :: l => by
    unfold F57_crossroadsref23_told_l1
    by_cases h : x.ID = id
    · simp [h]
    · simp [h, told_l1 id l]
theorem told_is (x : TList) (id : Int) : F57_crossroadsref23_told x id = match x.L.find? (fun x => decide (x.ID = id)) with | some x => (x, true) | none => (⟨0, 0, 0, 0⟩, false) := by
  unfold F57_crossroadsref23_told
  rw [told_l1]
  cases x.L.find? fun x => decide (x.ID = id) <;> rfl
theorem find_app (P : List TEntry) (e : TEntry) (q : Int) : (P ++ [e]).find? (fun x => decide (x.ID = q)) = match P.find? (fun x => decide (x.ID = q)) with | some v => some v | none => if e.ID = q then some e else none := by
  rw [List.find?_append]
  cases P.find? fun x => decide (x.ID = q) with
  | some v => rfl
  | none => by_cases h : e.ID = q <;> simp [h]
theorem ask_eq {b : TBase} (hs : SrtI TLsp.ID b.L) (hsm : SmB b) (x : TList) : ∀ (k P : List TEntry) (told : List (Int × TEntry)) (ask : List TEntry), x.L = P ++ k → (∀ q, findM told q = P.find? fun e => decide (e.ID = q)) →
    ∃ t, F18_link_Differ_l3 b told ask k = (t, F31_crossroadsref23_Differ_l1 b x ask P.length k) ∧ ∀ q, findM t q = x.L.find? fun e => decide (e.ID = q)
  | [], P, told, ask, hx, ht => by
    unfold F18_link_Differ_l3 F31_crossroadsref23_Differ_l1
    refine ⟨told, rfl, fun q => ?_⟩
    rw [ht, hx, List.append_nil]
  | e :: k, P, told, ask, hx, ht => by
    have hx' : x.L = (P ++ [e]) ++ k := by rw [hx]; simp
    have ih := fun told ask h => ask_eq hs hsm x k (P ++ [e]) told ask hx' h
    simp only [List.length_append, List.length_cons, List.length_nil, Nat.zero_add] at ih
    unfold F18_link_Differ_l3 F31_crossroadsref23_Differ_l1
    have htk : x.L.take P.length = P := by rw [hx]; simp
    rw [told_is, rfind_is]
    simp only [htk, ht]
    cases hp : P.find? fun y => decide (y.ID = e.ID) with
    | some v =>
      simp only [Option.isSome_some, cond_true]
      refine ih told ask fun q => ?_
      rw [find_app, ht]
      cases hq : P.find? fun y => decide (y.ID = q) with
      | some w => rfl
      | none =>
        by_cases h : e.ID = q
        · subst h; rw [hp] at hq; cases hq
        · simp [h]
    | none =>
      have hset : ∀ q, findM (setM told e.ID e) q = (P ++ [e]).find? fun y => decide (y.ID = q) := by
        intro q
        rw [findM_set, find_app, ht]
        by_cases h : q = e.ID
        · subst h
          rw [hp]
        · have h' : ¬ e.ID = q := fun h1 => h h1.symm
          rw [if_neg h]
          cases P.find? fun y => decide (y.ID = q) <;> simp [h']
      have ih' := fun ask => ih (setM told e.ID e) ask hset
      have e2 : ∀ z : TLsp, F56_crossroadsref23_Entry z = entOf z := fun _ => rfl
      have e3 : ∀ z : TLsp, F14_link_Entry z = entOf z := fun _ => rfl
      simp only [Option.isSome_none, cond_false, find_eq hs hsm, e2, e3, refCompare_eq]
      cases b.L.find? fun y => decide (y.ID = e.ID) with
      | none =>
        simp only [cond_false]
        by_cases hl : e.Life = 0
        · simp only [hl, decide_true, cond_true]; exact ih' ask
        · simp only [hl, decide_false, cond_false]; exact ih' _
      | some y =>
        simp only [cond_true]
        by_cases hl : e.Life = 0
        · simp only [hl, decide_true, cond_true]; exact ih' ask
        · by_cases hc : 0 < F8_link_Compare e (entOf y)
          · have hc' : ¬ F8_link_Compare e (entOf y) ≤ 0 := by omega
            simp only [hl, hc, hc', decide_true, decide_false, cond_true, cond_false]; exact ih' _
          · have hc' : F8_link_Compare e (entOf y) ≤ 0 := by omega
            simp only [hl, hc, hc', decide_true, decide_false, cond_true, cond_false]; exact ih' _
theorem send_eq (x : TList) {t : List (Int × TEntry)} (ht : ∀ q, findM t q = x.L.find? fun e => decide (e.ID = q)) : ∀ (l : List TLsp) (send : List Int), F18_link_Differ_l2 x t send (l.map entOf) = F31_crossroadsref23_Differ_l2 x send l
  | [], send => by unfold F31_crossroadsref23_Differ_l2; rfl
  | y :: l, send => by
    rw [List.map_cons]
    unfold F18_link_Differ_l2 F31_crossroadsref23_Differ_l2
    have e2 : F56_crossroadsref23_Entry y = entOf y := rfl
    simp only [told_is, e2, refCompare_eq, ht, send_eq x ht l]
    cases x.L.find? fun e => decide (e.ID = (entOf y).ID) with
    | none => simp only [Option.isSome_none, cond_false]
    | some v => simp only [Option.isSome_some, Option.getD_some, cond_true]
theorem rdiffer_eq {b : TBase} (h : InvP b) (x : TList) : F31_crossroadsref23_Differ b x = F18_link_Differ b x := by
  unfold F31_crossroadsref23_Differ F18_link_Differ
  obtain ⟨t, t1, t2⟩ := ask_eq h.inv.srt h.inv.sm x x.L [] [] [] rfl (fun q => rfl)
  rw [t1]
  dsimp only
  rw [list_all h.rng, send_eq x t2]
  rfl

/-! ### Like itself -/
theorem ids_l1 (b : List Int) : ∀ (l : List Int) (i : Nat), l = b.drop i → F28_crossroadsref23_IDs_l1 b i l = .ok ()
  | [], i, _ => by unfold F28_crossroadsref23_IDs_l1; rfl
  | x :: l, i, e => by
    unfold F28_crossroadsref23_IDs_l1
    have hx : b.getD i default = x := by
      have : (b.drop i)[0]? = some x := by rw [← e]; rfl
      rw [List.getElem?_drop, Nat.add_zero] at this
      rw [List.getD_eq_getElem?_getD, this]
      rfl
    have hl : l = b.drop (i + 1) := by rw [← List.drop_drop, ← e]; rfl
    simp only [hx, decide_true, cond_true]
    exact ids_l1 b l (i + 1) hl
theorem ids_self (b : List Int) : F28_crossroadsref23_IDs b b = true := by
  unfold F28_crossroadsref23_IDs
  rw [ids_l1 b b 0 rfl]
  simp
theorem ents_l1 (b : List TEntry) : ∀ (l : List TEntry) (i : Nat), l = b.drop i → F33_crossroadsref22_Entries_l1 b i l = .ok ()
  | [], i, _ => by unfold F33_crossroadsref22_Entries_l1; rfl
  | x :: l, i, e => by
    unfold F33_crossroadsref22_Entries_l1
    have hx : b.getD i default = x := by
      have : (b.drop i)[0]? = some x := by rw [← e]; rfl
      rw [List.getElem?_drop, Nat.add_zero] at this
      rw [List.getD_eq_getElem?_getD, this]
      rfl
    have hl : l = b.drop (i + 1) := by rw [← List.drop_drop, ← e]; rfl
    simp only [hx, decide_true, cond_true, Bool.and_self]
    exact ents_l1 b l (i + 1) hl
theorem ents_self (b : List TEntry) : F33_crossroadsref22_Entries b b = true := by
  unfold F33_crossroadsref22_Entries
  rw [ents_l1 b b 0 rfl]
  simp
theorem may36_l1 {b : TBase} (hi : ∀ x ∈ b.L, F48_link_Base_isOf b x = true) (hs : SrtI TLsp.ID b.L) : ∀ (l : List TLsp) (i : Nat), l = b.L.drop i → F36_link_May_l1 b i l = .ok ()
  | [], i, _ => by unfold F36_link_May_l1; rfl
  | x :: l, i, e => by
    unfold F36_link_May_l1
    have h0 : (b.L.drop i)[0]? = some x := by rw [← e]; rfl
    rw [List.getElem?_drop, Nat.add_zero] at h0
    have hx : b.L.getD i default = x := by rw [List.getD_eq_getElem?_getD, h0]; rfl
    have hil : i < b.L.length := (List.getElem?_eq_some_iff.1 h0).1
    have hl : l = b.L.drop (i + 1) := by rw [← List.drop_drop, ← e]; rfl
    simp only [hi x (List.mem_of_getElem? h0), cond_true, may36_l1 hi hs l (i + 1) hl]
    by_cases hp : 0 < i
    · have hp' : (0 : Int) < (i : Int) := by omega
      have hlt := srtI_get hs (a := i - 1) (b := i) (by omega) hil
      rw [hx] at hlt
      have : ¬ x.ID ≤ (b.L.getD (i - 1) default).ID := by omega
      simp only [hp', this, decide_true, decide_false, cond_true, cond_false]
    · have hp' : ¬ (0 : Int) < (i : Int) := by omega
      simp only [hp', decide_false, cond_false]
theorem may36 {b : TBase} (h : InvB b) : F36_link_May b = true := by
  unfold F36_link_May
  rw [may36_l1 (fun x hx => by rw [isOf_eq (h.sm.all x hx)]; exact h.ok x hx) h.srt b.L 0 rfl]
  obtain ⟨l1, l2⟩ := h.lv
  obtain ⟨m1, m2⟩ := h.mx
  have a1 : ¬ b.Level < 1 := by omega
  have a2 : ¬ 2 < b.Level := by omega
  have a3 : ¬ b.Max < 1 := by omega
  have a4 : ¬ 1000 < b.Max := by omega
  unfold F24_link_New
  simp only [a1, a2, a3, a4, decide_false, cond_false]
  simp [h.fit]

/-! ### The law -/
theorem plays_l1 (x : TList) : ∀ (l : List TAct) (b : TBase) (i : Nat), InvP b → (∀ y ∈ l, 0 ≤ y.X.ID ∧ y.X.ID ≤ 18446744073709551615) → ∃ p, F7_crossroadslaw23_LinkPlays_l1 x b b i l = .ok p
  | [], b, i, _, _ => ⟨_, by unfold F7_crossroadslaw23_LinkPlays_l1; rfl⟩
  | a :: l, b, i, hb, hr => by
    have ih := fun c hc => plays_l1 x l c (i + 1) hc fun y hy => hr y (List.mem_cons_of_mem _ hy)
    unfold F7_crossroadslaw23_LinkPlays_l1
    by_cases h60 : (i : Int) < 60
    case neg => exact ⟨(b, b), by simp only [h60, decide_false, cond_false]⟩
    cases hx : F12_crossroadslaw23_little a.X with
    | false =>
      simp only [h60, decide_true, cond_true, cond_false]
      exact ih b hb
    | true =>
      have hx' := post_little a.X hx
      cases a.Tick with
      | true =>
        have ht := invP_tick a.By hb
        have h1 := (rtick_eq a.By hb.inv).1
        simp only [h60, decide_true, cond_true, h1]
        generalize F26_link_Tick b a.By = r at ht ⊢
        obtain ⟨c, ids⟩ := r
        dsimp only at ht ⊢
        simp only [list_eq, plain_eq, rows_eq, rlist_is, rdiffer_eq ht, ids_self, ents_self, same_self, may36 ht.inv, cond_true]
        exact ih c ht
      | false =>
        have ht := invP_put hb hx' (hr a List.mem_cons_self)
        simp only [h60, decide_true, cond_true, cond_false, lsp_eq, rput_eq hb.inv.srt hb.inv.sm hx']
        generalize F21_link_Put b a.X = r at ht ⊢
        obtain ⟨c, n, e⟩ := r
        dsimp only at ht ⊢
        simp only [list_eq, plain_eq, rows_eq, rlist_is, rdiffer_eq ht, ids_self, ents_self, same_self, may36 ht.inv, decide_true, cond_true]
        exact ih c ht

theorem invP_new {l m : Int} (h : (F24_link_New l m).2 = 0) : InvP (F24_link_New l m).1 := by
  obtain ⟨a1, a2, a3, a4⟩ := new_ok h
  have e : F24_link_New l m = (⟨l, m, [], false⟩, 0) := by
    have b1 : ¬ l < 1 := by omega
    have b2 : ¬ 2 < l := by omega
    have b3 : ¬ m < 1 := by omega
    have b4 : ¬ 1000 < m := by omega
    unfold F24_link_New
    simp only [b1, b2, b3, b4, decide_false, cond_false]
  rw [e]
  exact ⟨⟨List.Pairwise.nil, ⟨Nat.zero_le _, fun x hx => by cases hx⟩, ⟨a1, a2⟩, ⟨a3, a4⟩, by show ((0 : Nat) : Int) ≤ m; omega, fun x hx => by cases hx⟩, fun x hx => by cases hx⟩

theorem linkPlays_true (size : TS) (script : List TAct) (x : TList) (h0 : TS.ok size) (h1 : ∀ y ∈ script, TAct.ok y) (h2 : TList.ok x) : F7_crossroadslaw23_LinkPlays size script x = true := by
  have hr : ∀ y ∈ script, 0 ≤ y.X.ID ∧ y.X.ID ≤ 18446744073709551615 := by
    intro y hy
    have h3 : TLsp.ok y.X := (h1 y hy).2
    have h4 : InK .u64 y.X.ID := h3.2.2.1
    obtain ⟨u1, u2⟩ := h4
    rw [show IntKind.u64.min = 0 by decide] at u1
    rw [show IntKind.u64.max = 18446744073709551615 by decide] at u2
    exact ⟨u1, u2⟩
  unfold F7_crossroadslaw23_LinkPlays
  rw [refNew_eq]
  have hi := @invP_new size.e0 size.e1
  generalize F24_link_New size.e0 size.e1 = r at hi
  obtain ⟨b, e⟩ := r
  dsimp only at hi ⊢
  simp only [plain_eq, same_self, decide_true, Bool.true_and, cond_true, alive_true]
  by_cases he : e = 0
  · obtain ⟨p, hp⟩ := plays_l1 x script b 0 (hi he) hr
    rw [hp]
    simp
  · simp [he]
end Go.Proofs.Ytpcpclbdajebjaa.Abs
