/- The abstract machine's rules over typed rows: each row is a list of a Lean type, seen through its cells. Generic over any program. -/
import Derived.Test.YtakallenldpkiaaDoorA21
import Derived.Test.YtakallenldpkiaaDoorP0
set_option linter.unusedVariables false
set_option linter.unusedSimpArgs false
set_option linter.unusedSectionVars false
namespace Go.Proofs.YtakallenldpkiaaDoor.Abs
open Go
variable [DqC]

def c_i8 (x : Int) : List PVal := [.int .i8 x]
def c_i16 (x : Int) : List PVal := [.int .i16 x]
def c_i32 (x : Int) : List PVal := [.int .i32 x]
def c_i64 (x : Int) : List PVal := [.int .i64 x]
def c_u8 (x : Int) : List PVal := [.int .u8 x]
def c_u16 (x : Int) : List PVal := [.int .u16 x]
def c_u32 (x : Int) : List PVal := [.int .u32 x]
def c_u64 (x : Int) : List PVal := [.int .u64 x]
def c_bool (x : Bool) : List PVal := [.bool x]
def c_str (x : ByteArray) : List PVal := [.str x]
def c_row {α : Type} (sz : Nat) (c : α → List PVal) (x : List α) : List PVal := [.ro sz (x.map c)]

theorem bool_two (b : Bool) : b = false ∨ b = true := by cases b <;> simp
theorem len_map {α : Type} (f : α → List PVal) (l : List α) : PVal.int .i64 ((l.map f).length : Int) = .int .i64 (l.length : Int) := by rw [List.length_map]
theorem drop_end {α : Type} {l : List α} {i : Nat} (h : decide ((i : Int) < (l.length : Int)) = false) : l.drop i = [] := by
  rw [decide_eq_false_iff_not] at h
  exact List.drop_eq_nil_of_le (by omega)
theorem drop_more {α : Type} {l : List α} {i : Nat} (h : decide ((i : Int) < (l.length : Int)) = true) : ∃ x, l[i]? = some x ∧ l.drop i = x :: l.drop (i + 1) ∧ i < l.length := by
  rw [decide_eq_true_eq] at h
  have hlt : i < l.length := by omega
  exact ⟨l[i], List.getElem?_eq_getElem hlt, List.drop_eq_getElem_cons hlt, hlt⟩
theorem wrap_up {i n : Nat} (h : i < n) (hn : n ≤ 9223372036854775807) : IntKind.i64.wrap ((i : Int) + 1) = ((i + 1 : Nat) : Int) := by
  rw [wrap64_of (by omega) (by omega)]; omega
theorem wrap_down {i n : Nat} (h : decide (0 < (i : Int)) = true) (hi : i < n) (hn : n ≤ 9223372036854775807) : IntKind.i64.wrap ((i : Int) - 1) = ((i - 1 : Nat) : Int) := by
  rw [decide_eq_true_eq] at h
  rw [wrap64_of (by omega) (by omega)]; omega
theorem fuel_pos {i B : Int} {k : Nat} (hb : decide (i < B) = true) (h : fuelUp i B ≤ k) : ∃ f, k = f + 1 := by
  rw [decide_eq_true_eq] at hb
  unfold fuelUp at h
  split at h
  · exact ⟨k - 1, by omega⟩
  · exact ⟨k - 1, by omega⟩
theorem fuel_up {i B : Int} {f : Nat} (hb : decide (i < B) = true) (hB : B ≤ 9223372036854775807) (h : fuelUp i B ≤ f + 1) : fuelUp (IntKind.i64.wrap (i + 1)) B ≤ f := by
  rw [decide_eq_true_eq] at hb
  unfold fuelUp at h ⊢
  by_cases hr : -9223372036854775808 ≤ i ∧ i < 9223372036854775808
  · rw [if_pos hr] at h
    rw [wrap64_of (by omega) (by omega)]
    rw [if_pos (by omega)]
    omega
  · rw [if_neg hr] at h
    have h3 : (2 : Int) ^ IntKind.i64.bits = 18446744073709551616 := by decide
    have h4 : (2 : Int) ^ (IntKind.i64.bits - 1) = 9223372036854775808 := by decide
    have h5 : IntKind.i64.signed = true := rfl
    have hw : -9223372036854775808 ≤ IntKind.i64.wrap (i + 1) ∧ IntKind.i64.wrap (i + 1) < 9223372036854775808 := by
      simp only [IntKind.wrap, h3, h4, h5, Bool.true_and, decide_eq_true_eq, ge_iff_le]
      split <;> omega
    rw [if_pos hw]
    omega
theorem wrap_u64_nonneg (x : Int) : 0 ≤ IntKind.u64.wrap x := by
  have h3 : (2 : Int) ^ IntKind.u64.bits = 18446744073709551616 := by decide
  have h5 : IntKind.u64.signed = false := rfl
  simp only [IntKind.wrap, h3, h5, Bool.false_and, Bool.false_eq_true, if_false]
  exact Int.emod_nonneg _ (by decide)
theorem wrap_u32_nonneg (x : Int) : 0 ≤ IntKind.u32.wrap x := by
  have h3 : (2 : Int) ^ IntKind.u32.bits = 4294967296 := by decide
  have h5 : IntKind.u32.signed = false := rfl
  simp only [IntKind.wrap, h3, h5, Bool.false_and, Bool.false_eq_true, if_false]
  exact Int.emod_nonneg _ (by decide)
theorem getD_at {α : Type} [Inhabited α] {l : List α} {i : Nat} (h : i < l.length) : l[i]? = some (l.getD i default) := by
  rw [List.getD_eq_getElem?_getD, List.getElem?_eq_getElem h]; rfl

theorem elems_ro {α : Type} {c : α → List PVal} {X : List α} {h : Heap} {sz : Nat} : elems h (.ro sz (X.map c)) = some (sz, X.map c, []) := rfl
theorem elems_own {α : Type} {c : α → List PVal} {X : List α} {h : Heap} {id sz : Nat} {ty : TypeId} (ho : h id = some (.row sz ty (X.map c))) : elems h (.own id sz 0 X.length) = some (sz, X.map c, [id]) := by
  simp only [elems, ho]
  rw [if_pos ⟨trivial, by simp⟩, List.drop_zero, List.take_of_length_le (by simp)]
theorem view_rowT {α : Type} {c : α → List PVal} {L : List α} {sl : List Nat} {bs : List (AId × AObj)} {id sz : Nat} {ty : TypeId} (hp : posAt sl id 0 = none) (ho : bs.lookup id = some (.row sz ty (L.map c))) : viewP sl bs (.own id sz 0 L.length) = some (.ro sz (L.map c)) :=
  view_row hp ho (by rw [List.length_map])
theorem viewGo_nil {sl : List Nat} {bs : List (AId × AObj)} : viewP.go sl bs [] = some [] := rfl
theorem viewGo_cons {sl : List Nat} {bs : List (AId × AObj)} {p q : PVal} {r l : List PVal} (h : viewP sl bs p = some q) (k : viewP.go sl bs r = some l) : viewP.go sl bs (p :: r) = some (q :: l) := by
  simp only [viewP.go, h, k]
theorem viewP_agg {sl : List Nat} {bs : List (AId × AObj)} {r l : List PVal} (k : viewP.go sl bs r = some l) : viewP sl bs (.agg r) = some (.agg l) := by
  simp only [viewP, k]
theorem viewP_tup {sl : List Nat} {bs : List (AId × AObj)} {r l : List PVal} (k : viewP.go sl bs r = some l) : viewP sl bs (.tup r) = some (.tup l) := by
  simp only [viewP, k]
theorem viewP_fn {sl : List Nat} {bs : List (AId × AObj)} {f : FuncId} {a a' b b' : List PVal} (k : viewP.go sl bs a = some a') (j : viewP.go sl bs b = some b') : viewP sl bs (.fn f a b) = some (.fn f a' b') := by
  simp only [viewP, k, j]

theorem RetQ.fr {ts : List RV} {v : PVal} {e : Exit} {env : List (Nat × PVal)} {heap : List (AId × AObj)} {next : Nat} {qs qs' : List PVal} (bi : List Nat) (he : e = .normal ∨ e = .ret) (hq : evalRs env heap ts = some qs) (hs : slOk [] bi next = true)
    (hv : viewP.go [] (pickH heap bi) qs = some qs') (hr : v = retV qs') : RetQ 0 ts v [] 0 e ⟨env, heap, next⟩ :=
  RetQ.done (sl := []) (bi := bi) he hq (fun i h => absurd h (Nat.not_lt_zero i)) (Nat.le_refl _) hs rfl hv (hr ▸ .refl) rfl
theorem RetQ.frw {ts : List RV} {v : PVal} {e : Exit} {env : List (Nat × PVal)} {heap : List (AId × AObj)} {next : Nat} {qs qs' : List PVal} (bi : List Nat) (he : e = .normal ∨ e = .ret) (hq : evalRs env heap ts = some qs) (hs : slOk [] bi next = true)
    (hv : viewP.go [] (pickH heap bi) qs = some qs') (hr : WeakP (retV qs') v) : RetQ 0 ts v [] 0 e ⟨env, heap, next⟩ :=
  RetQ.done (sl := []) (bi := bi) he hq (fun i h => absurd h (Nat.not_lt_zero i)) (Nat.le_refl _) hs rfl hv hr rfl

section
variable {P : Program} {n k0 : Nat} {Q : Exit → St → Prop} {st : St} {r : List AC} {env : List (Nat × PVal)} {heap heap' : List (AId × AObj)} {next : Nat}

/-- A row is no longer than memory bears. -/
theorem WK.len {t sz : Nat} {es : List (List PVal)} (h : st.env.lookup t = some (.ro sz es)) (hr : r ≠ []) (k : es.length ≤ 9223372036854775807 → WK P n k0 r Q st) : WK P n k0 r Q st := by
  cases r with
  | nil => exact absurd rfl hr
  | cons c r =>
    intro c' hc rr ds m ok a w hk hS
    obtain ⟨v, hv, hrep⟩ := hS.tmp t _ h
    have : es.length ≤ 9223372036854775807 := by
      cases hrep with
      | ro vs hn hcp hm hs hA hcell h => rw [hn]; exact Nat.le_trans hcp hm
    exact k this c' hc rr ds m ok a w hk hS

theorem WK.leno {id sz : Nat} {ty : TypeId} {es : List (List PVal)} (h : st.heap.lookup id = some (.row sz ty es)) (hr : r ≠ []) (k : es.length ≤ 9223372036854775807 → WK P n k0 r Q st) : WK P n k0 r Q st := by
  cases r with
  | nil => exact absurd rfl hr
  | cons c r =>
    intro c' hc rr ds m ok a w hk hS
    obtain ⟨B, hB, hrep⟩ := hS.hp.obj id _ h
    have : es.length ≤ 9223372036854775807 := by
      cases B with
      | nil => rw [hrep.1]; exact Nat.zero_le _
      | «at» b tot =>
        obtain ⟨vs, h1, h2, h3, h4, h5⟩ := hrep
        exact Nat.le_trans h3 h4
    exact k this c' hc rr ds m ok a w hk hS

theorem Rep.len {w : World} {ok : Nat → Prop} {D : AId → Prop} {m : AId → Option Blk} {c : Bool} {sz : Nat} {es : List (List PVal)} {v : Value} (h : Rep w ok D m c (.ro sz es) v) : es.length ≤ 9223372036854775807 := by
  cases h with
  | ro vs hn hcp hm hs hA hcell h => rw [hn]; exact Nat.le_trans hcp hm
/-- .. one that stands in a box. -/
theorem WK.lenb {id j sz : Nat} {cs : List PVal} {es : List (List PVal)} (h : st.heap.lookup id = some (.box cs)) (hj : cs[j]? = some (.ro sz es)) (hr : r ≠ []) (k : es.length ≤ 9223372036854775807 → WK P n k0 r Q st) : WK P n k0 r Q st := by
  cases r with
  | nil => exact absurd rfl hr
  | cons c r =>
    intro c' hc rr ds m ok a w hk hS
    obtain ⟨B, hB, hrep⟩ := hS.hp.obj id _ h
    cases B with
    | nil => exact hrep.elim
    | «at» b tot =>
      obtain ⟨vs, ty, h1, h2, h3⟩ := hrep
      obtain ⟨v, h4, h5, h6⟩ := h3 j _ hj
      exact k h6.len c' hc rr ds m ok a w hk hS
/-- .. one in a struct, or behind a pointer. -/
theorem WK.lena {t j sz : Nat} {cs : List PVal} {es : List (List PVal)} (h : st.env.lookup t = some (.agg cs)) (hj : cs[j]? = some (.ro sz es)) (hr : r ≠ []) (k : es.length ≤ 9223372036854775807 → WK P n k0 r Q st) : WK P n k0 r Q st := by
  cases r with
  | nil => exact absurd rfl hr
  | cons c r =>
    intro c' hc rr ds m ok a w hk hS
    obtain ⟨v, hv, hrep⟩ := hS.tmp t _ h
    cases hrep with
    | agg hl h1 h2 =>
      have hlt := (List.getElem?_eq_some_iff.1 hj).1
      rw [hl] at hlt
      exact k (h2 j _ _ hj (List.getElem?_eq_getElem hlt)).len c' hc rr ds m ok a w hk hS
theorem WK.lenp {t j sz : Nat} {cs : List PVal} {es : List (List PVal)} (h : st.env.lookup t = some (.rptr cs)) (hj : cs[j]? = some (.ro sz es)) (hr : r ≠ []) (k : es.length ≤ 9223372036854775807 → WK P n k0 r Q st) : WK P n k0 r Q st := by
  cases r with
  | nil => exact absurd rfl hr
  | cons c r =>
    intro c' hc rr ds m ok a w hk hS
    obtain ⟨v, hv, hrep⟩ := hS.tmp t _ h
    cases hrep with
    | rptr vs h1 h2 => exact k (h2 j _ hj).len c' hc rr ds m ok a w hk hS

/-- A loop of so many rounds. -/
def WU (P : Program) (n k0 id : Nat) (x : AC) (r : List AC) (Q : Exit → St → Prop) : Nat → St → Prop
  | 0, _ => False
  | m + 1, st => WK P n k0 [x] (QF id (WU P n k0 id x r Q m) (WK P n k0 r Q) Q) st
theorem WU.go {id m : Nat} {x : AC} (h : WK P n k0 [x] (QF id (WU P n k0 id x r Q m) (WK P n k0 r Q) Q) st) : WU P n k0 id x r Q (m + 1) st := h
theorem WK.unroll {id : Nat} {x : AC} (m : Nat) (h : WU P n k0 id x r Q m st) : WK P n k0 (.block id (.loop x) :: r) Q st := by
  refine WK.for (fun k s => WU P n k0 id x r Q k s) m h fun k s hI => ?_
  cases k with
  | zero => exact hI.elim
  | succ k =>
    refine W.mono (Q := AThen (WK P n k0 [] (QF id (WU P n k0 id x r Q k) (WK P n k0 r Q) Q)) (QF id (WU P n k0 id x r Q k) (WK P n k0 r Q) Q)) hI fun e s hq => ?_
    cases e <;> first
      | exact ⟨k, Nat.lt_succ_self k, hq⟩
      | exact hq

theorem lookup_snoc {id : Nat} {o o' : AObj} : ∀ {h : List (AId × AObj)} {j : Nat}, (h ++ [(id, o)]).lookup j = some o' → h.lookup j = some o' ∨ (h.lookup j = none ∧ j = id ∧ o' = o)
  | [], j, hl => by
    by_cases hj : j = id
    · subst hj
      simp [List.lookup] at hl
      exact .inr ⟨rfl, rfl, hl.symm⟩
    · have : (j == id) = false := by simpa using hj
      simp [List.lookup, this] at hl
  | (k, x) :: h, j, hl => by
    by_cases hj : j = k
    · subst hj
      simp [List.lookup] at hl ⊢
      exact hl
    · have : (j == k) = false := by simpa using hj
      simp only [List.cons_append, List.lookup, this] at hl ⊢
      exact lookup_snoc hl

/-- No row yet: a row of one's own without elements. -/
theorem Conv.adopt {t sz : Nat} {ty : TypeId} (h : env.lookup t = some .nils) (hsz : 0 < sz) : Conv k0 ⟨env, heap, next⟩ ⟨(t, .own next sz 0 0) :: env, heap ++ [(next, .row sz ty [])], next + 1⟩ := by
  intro n ds m ok a w hk hS
  have hk : k0 ≤ next := hk
  have hS : Sim n ds (· < next) m ok (fun t => env.lookup t) (fun i => heap.lookup i) a w := hS
  have hmn : m next = none := by
    cases hm : m next with
    | none => rfl
    | some B => exact absurd (hS.hp.dom next B hm) (Nat.lt_irrefl _)
  let m' : AId → Option Blk := fun id => if id = next then some .nil else m id
  have hm' : ∀ id, id < next → m' id = m id := fun id hid => if_neg (Nat.ne_of_lt hid)
  have hat : ∀ id b t, m' id = some (.at b t) → m id = some (.at b t) := fun id b t he => by
    by_cases hid : id = next
    · subst hid; simp [m'] at he
    · simpa [m', hid] using he
  have hst : Step m w m' w := ⟨rfl, Tp.refl w, rfl, Nat.le_refl _, fun _ _ _ => rfl, fun id b t he => .inl ⟨id, t, hat id b t he⟩⟩
  have hD : ∀ id, id < next → id < next + 1 := fun id hid => by omega
  have hmm : ∀ id, id < next → m' id = m id ∨ m' id = none := fun id hid => .inl (hm' id hid)
  refine ⟨m', ⟨⟨fun id o ho => ?_, fun id B hB => ?_, fun id id' b t t' h1 h2 => hS.hp.inj id id' b t t' (hat _ _ _ h1) (hat _ _ _ h2), fun id b t he => hS.hp.lt id b t (hat _ _ _ he), fun id b t he => hS.hp.okm id b t (hat _ _ _ he), hS.hp.fresh, fun x hx => ⟨fun id t he => (hS.hp.glob x hx).1 id t (hat _ _ _ he), (hS.hp.glob x hx).2⟩⟩, fun t' p hp => ?_, hS.df, hS.sz⟩, hst, fun id hid => .inl (hm' id (Nat.lt_of_lt_of_le hid hk)), Nat.le_succ_of_le hk⟩
  · rcases lookup_snoc (show (heap ++ [(next, AObj.row sz ty [])]).lookup id = some o from ho) with h1 | ⟨h0, h1, h2⟩
    · obtain ⟨B, hB, hrep⟩ := hS.hp.obj id o h1
      have hlt := hS.hp.dom id B hB
      exact ⟨B, by rw [hm' id hlt]; exact hB, hrep.step hst (fun _ _ _ => rfl) hD hmm⟩
    · subst h1 h2
      exact ⟨.nil, by simp [m'], rfl, hsz⟩
  · by_cases hid : id = next
    · exact hid ▸ Nat.lt_succ_self next
    · have : m id = some B := by simpa [m', hid] using hB
      exact hD _ (hS.hp.dom id B this)
  · have hp' : ((t, PVal.own next sz 0 0) :: env).lookup t' = some p := hp
    by_cases ht : t' = t
    · subst ht
      simp [List.lookup] at hp'
      subst hp'
      obtain ⟨v, hv, hrep⟩ := hS.tmp t' _ h
      refine ⟨v, hv, ?_⟩
      cases hrep
      refine .own (Nat.lt_succ_self _) rfl fun B hB => ?_
      have : B = .nil := by simpa [m'] using hB.symm
      subst this
      exact ⟨⟨_, rfl⟩, rfl, rfl⟩
    · have : (t' == t) = false := by simpa using ht
      simp only [List.lookup, this] at hp'
      obtain ⟨v, hv, hrep⟩ := hS.tmp t' p hp'
      exact ⟨v, hv, hrep.step hst hD hmm⟩
theorem WK.adopt {t sz : Nat} {ty : TypeId} (h : env.lookup t = some .nils) (hsz : 0 < sz) (hr : r ≠ []) (hh : heap ++ [(next, .row sz ty [])] = heap') (k : WK P n k0 r Q ⟨(t, .own next sz 0 0) :: env, heap', next + 1⟩) : WK P n k0 r Q ⟨env, heap, next⟩ := by
  subst hh
  exact WK.conv (Conv.adopt h hsz) k hr

theorem Conv.nilro {t sz : Nat} (h : env.lookup t = some .nils) : Conv k0 ⟨env, heap, next⟩ ⟨(t, .ro sz []) :: env, heap, next⟩ := by
  intro n ds m ok a w hk hS
  refine ⟨m, ⟨hS.hp, fun t' p hp => ?_, hS.df, hS.sz⟩, Step.refl m w, Mon.refl _ m, hk⟩
  have hp' : ((t, PVal.ro sz []) :: env).lookup t' = some p := hp
  by_cases ht : t' = t
  · subst ht
    simp [List.lookup] at hp'
    subst hp'
    obtain ⟨v, hv, hrep⟩ := hS.tmp t' _ h
    refine ⟨v, hv, ?_⟩
    cases hrep
    exact .ro (ad := ⟨0, 0, none⟩) (fun _ _ => default) rfl (Nat.le_refl _) (Nat.zero_le _) (fun e he => by cases he) (fun h => by cases h) (fun i j e p he => by simp at he) (fun i j e p he => by simp at he)
  · have : (t' == t) = false := by simpa using ht
    simp only [List.lookup, this] at hp'
    exact hS.tmp t' p hp'
theorem WK.nilro {α : Type} {c : α → List PVal} {t sz : Nat} (h : env.lookup t = some .nils) (hr : r ≠ []) (k : WK P n k0 r Q ⟨(t, .ro sz (([] : List α).map c)) :: env, heap, next⟩) : WK P n k0 r Q ⟨env, heap, next⟩ := WK.conv (Conv.nilro h) k hr
end

section
variable {P : Program} {n : Nat} {K : St → Prop} {l : List AO} {env : List (Nat × PVal)} {heap heap' : List (AId × AObj)} {next next' d : Nat} {op : AOp} {xs : List AX} {ps qs rest : List PVal} {v v' : PVal} {rh : List AId} {dr : List (List Nat)} {racc : List Eff}

theorem GO.idxT {α : Type} {c : α → List PVal} {L : List α} {x : α} {g : Option (Nat × Bool)} {sz : Nat} {ik : IntKind} {i : Int} (hd : Nat.blt d n = true) (hg : guarded env g = some true) (hx : evalXs env xs = some [.ro sz (L.map c), .int ik i]) (hi : 0 ≤ i) (he : L[i.toNat]? = some x)
    (k : GO P n K l ⟨(d, .rptr (c x)) :: env, heap, next⟩) : GO P n K (⟨some d, g, .idxA sz, xs⟩ :: l) ⟨env, heap, next⟩ := GO.idx hd hg hx hi (by rw [List.getElem?_map, he]; rfl) k
theorem RD.idxT {α : Type} {c : α → List PVal} {L : List α} {x : α} {g : Option (Nat × Bool)} {sz : Nat} {ik : IntKind} {i : Int} (hd : Nat.blt d n = true) (hg : guarded env g = some true) (hx : evalXs env xs = some [.ro sz (L.map c), .int ik i]) (hi : 0 ≤ i) (he : L[i.toNat]? = some x)
    (k : RD P n dr K l ({ rt := tmpsG g ++ tmpsX xs, wt := some (d, .undef), rh := [], wh := [], nw := [] } :: racc) ⟨(d, .rptr (c x)) :: env, heap, next⟩) : RD P n dr K (⟨some d, g, .idxA sz, xs⟩ :: l) racc ⟨env, heap, next⟩ := RD.idx hd hg hx hi (by rw [List.getElem?_map, he]; rfl) k

theorem GO.appT {α : Type} {c : α → List PVal} {L X : List α} {g : Option (Nat × Bool)} {id sz by_ m : Nat} {ty : TypeId} {x : PVal} {rh2 : List AId} (hd : Nat.blt d n = true) (hg : guarded env g = some true) (hx : evalXs env xs = some [.own id sz 0 m, x]) (ho : heap.lookup id = some (.row sz ty (L.map c)))
    (he : elems (fun id => heap.lookup id) x = some (sz, X.map c, rh2)) (hb : (L.length + X.length) * by_ ≤ 140737488355328) (hl : L.length + X.length ≤ 9223372036854775807) (hm : m = L.length) (hid : rh2.contains id = false) (hh : happL [(next, some (.row sz ty ((L ++ X).map c))), (id, none)] heap = heap') (hn : next + 1 = next')
    (k : GO P n K l ⟨(d, .own next sz 0 (L ++ X).length) :: env, heap', next'⟩) : GO P n K (⟨some d, g, .append sz ty by_, xs⟩ :: l) ⟨env, heap, next⟩ := by
  subst hh
  refine GO.app hd hg hx ho (by rw [List.length_map, hm]) he (by simpa using hb) (by simp only [List.length_map]; exact hl) hid rfl hn ?_
  rw [← List.map_append, List.length_map, List.length_map, ← List.length_append]
  exact k
theorem RD.appT {α : Type} {c : α → List PVal} {L X : List α} {g : Option (Nat × Bool)} {id sz by_ m : Nat} {ty : TypeId} {x : PVal} {rh2 : List AId} (hd : Nat.blt d n = true) (hg : guarded env g = some true) (hx : evalXs env xs = some [.own id sz 0 m, x]) (ho : heap.lookup id = some (.row sz ty (L.map c)))
    (he : elems (fun id => heap.lookup id) x = some (sz, X.map c, rh2)) (hb : (L.length + X.length) * by_ ≤ 140737488355328) (hl : L.length + X.length ≤ 9223372036854775807) (hm : m = L.length) (hid : rh2.contains id = false) (hh : happL [(next, some (.row sz ty ((L ++ X).map c))), (id, none)] heap = heap') (hn : next + 1 = next')
    (k : RD P n dr K l ({ rt := tmpsG g ++ tmpsX xs, wt := some (d, .undef), rh := id :: rh2, wh := [(next, none), (id, none)], nw := [] } :: racc) ⟨(d, .own next sz 0 (L ++ X).length) :: env, heap', next'⟩) : RD P n dr K (⟨some d, g, .append sz ty by_, xs⟩ :: l) racc ⟨env, heap, next⟩ := by
  subst hh
  refine RD.app hd hg hx ho (by rw [List.length_map, hm]) he (by simpa using hb) (by simp only [List.length_map]; exact hl) hid rfl hn ?_
  rw [← List.map_append, List.length_map, List.length_map, ← List.length_append]
  exact k

theorem GO.appnil {α : Type} {c : α → List PVal} {X : List α} {g : Option (Nat × Bool)} {sz by_ : Nat} {ty : TypeId} {x : PVal} {rh2 : List AId} (hd : Nat.blt d n = true) (hg : guarded env g = some true) (hx : evalXs env xs = some [.nils, x])
    (he : elems (fun id => heap.lookup id) x = some (sz, X.map c, rh2)) (hb : X.length * by_ ≤ 140737488355328) (hl : X.length ≤ 9223372036854775807) (hh : happL [(next, some (.row sz ty (X.map c)))] heap = heap') (hn : next + 1 = next')
    (k : GO P n K l ⟨(d, .own next sz 0 X.length) :: env, heap', next'⟩) : GO P n K (⟨some d, g, .append sz ty by_, xs⟩ :: l) ⟨env, heap, next⟩ := by
  refine GO.step (rh := rh2) (wh := [(next, some (.row sz ty (X.map c)))]) (nw := [next]) (v := .own next sz 0 (X.map c).length) hd hg hx ?_ (by rw [List.length_map]) hh hn k
  simp only [core, he]
  rw [if_pos ⟨trivial, by simpa using hb, by rw [List.length_map]; exact hl⟩]
theorem RD.appnil {α : Type} {c : α → List PVal} {X : List α} {g : Option (Nat × Bool)} {sz by_ : Nat} {ty : TypeId} {x : PVal} {rh2 : List AId} (hd : Nat.blt d n = true) (hg : guarded env g = some true) (hx : evalXs env xs = some [.nils, x])
    (he : elems (fun id => heap.lookup id) x = some (sz, X.map c, rh2)) (hb : X.length * by_ ≤ 140737488355328) (hl : X.length ≤ 9223372036854775807) (hh : happL [(next, some (.row sz ty (X.map c)))] heap = heap') (hn : next + 1 = next')
    (k : RD P n dr K l ({ rt := tmpsG g ++ tmpsX xs, wt := some (d, .undef), rh := rh2, wh := [(next, none)], nw := [] } :: racc) ⟨(d, .own next sz 0 X.length) :: env, heap', next'⟩) : RD P n dr K (⟨some d, g, .append sz ty by_, xs⟩ :: l) racc ⟨env, heap, next⟩ := by
  refine RD.step (rh := rh2) (wh := [(next, some (.row sz ty (X.map c)))]) (nw := [next]) (v := .own next sz 0 (X.map c).length) hd hg hx ?_ (by rw [List.length_map]) hh hn k
  simp only [core, he]
  rw [if_pos ⟨trivial, by simpa using hb, by rw [List.length_map]; exact hl⟩]

theorem core_shl {h : Heap} {nx : AId} {ek : EK} {k k' : IntKind} {a b : Int} (hb : 0 ≤ b) : core (.bin .shl ek) [.int k a, .int k' b] h nx = some { v := .int k (shl_ k a b) } := by
  simp only [core, coreBin, binV]
  rw [if_neg (by omega)]
  rfl
theorem core_shr {h : Heap} {nx : AId} {ek : EK} {k k' : IntKind} {a b : Int} (hb : 0 ≤ b) : core (.bin .shr ek) [.int k a, .int k' b] h nx = some { v := .int k (shr_ k a b) } := by
  simp only [core, coreBin, binV]
  rw [if_neg (by omega)]
  rfl
theorem GO.shl {g : Option (Nat × Bool)} {ek : EK} {k k' : IntKind} {a b : Int} (hd : Nat.blt d n = true) (hg : guarded env g = some true) (hx : evalXs env xs = some [.int k a, .int k' b]) (hb : 0 ≤ b)
    (kk : GO P n K l ⟨(d, .int k (shl_ k a b)) :: env, heap, next⟩) : GO P n K (⟨some d, g, .bin .shl ek, xs⟩ :: l) ⟨env, heap, next⟩ := GO.pure hd hg hx (core_shl hb) rfl kk
theorem GO.shr {g : Option (Nat × Bool)} {ek : EK} {k k' : IntKind} {a b : Int} (hd : Nat.blt d n = true) (hg : guarded env g = some true) (hx : evalXs env xs = some [.int k a, .int k' b]) (hb : 0 ≤ b)
    (kk : GO P n K l ⟨(d, .int k (shr_ k a b)) :: env, heap, next⟩) : GO P n K (⟨some d, g, .bin .shr ek, xs⟩ :: l) ⟨env, heap, next⟩ := GO.pure hd hg hx (core_shr hb) rfl kk
theorem RD.shl {g : Option (Nat × Bool)} {ek : EK} {k k' : IntKind} {a b : Int} (hd : Nat.blt d n = true) (hg : guarded env g = some true) (hx : evalXs env xs = some [.int k a, .int k' b]) (hb : 0 ≤ b)
    (kk : RD P n dr K l ({ rt := tmpsG g ++ tmpsX xs, wt := some (d, .undef), rh := [], wh := [], nw := [] } :: racc) ⟨(d, .int k (shl_ k a b)) :: env, heap, next⟩) : RD P n dr K (⟨some d, g, .bin .shl ek, xs⟩ :: l) racc ⟨env, heap, next⟩ := RD.pure hd hg hx (core_shl hb) rfl kk
theorem RD.shr {g : Option (Nat × Bool)} {ek : EK} {k k' : IntKind} {a b : Int} (hd : Nat.blt d n = true) (hg : guarded env g = some true) (hx : evalXs env xs = some [.int k a, .int k' b]) (hb : 0 ≤ b)
    (kk : RD P n dr K l ({ rt := tmpsG g ++ tmpsX xs, wt := some (d, .undef), rh := [], wh := [], nw := [] } :: racc) ⟨(d, .int k (shr_ k a b)) :: env, heap, next⟩) : RD P n dr K (⟨some d, g, .bin .shr ek, xs⟩ :: l) racc ⟨env, heap, next⟩ := RD.pure hd hg hx (core_shr hb) rfl kk

theorem RD.skip0 {g : Option (Nat × Bool)} (hg : guarded env g = some false) (k : RD P n dr K l ({ rt := tmpsG g, wt := none, rh := [], wh := [], nw := [] } :: racc) ⟨env, heap, next⟩) : RD P n dr K (⟨none, g, op, xs⟩ :: l) racc ⟨env, heap, next⟩ := by
  refine RD.eff (e := { rt := tmpsG g, wt := none, rh := [], wh := [], nw := [] }) (opEff_ok ?_) k
  unfold opEff
  simp only [dOk, if_true, hg, Option.map_none]

/-- A call of a function value that looks at what the caller owns (bi), and returns something flat. -/
theorem GO.callvbp {g : Option (Nat × Bool)} {f : FuncId} {first caps : List PVal} {r : PVal} (bi : List Nat) (hd : Nat.blt d n = true) (hg : guarded env g = some true) (hx : evalXs env xs = some (.fn f first caps :: rest)) (hv : viewP.go [] (pickH heap bi) (first ++ rest ++ caps) = some qs) (hF : FnOk P f qs [] 0 r [] 0)
    (hfl : r.flat = true) (hr : r.closed = true) (k : GO P n K l ⟨(d, r) :: env, heap, next⟩) : GO P n K (⟨some d, g, .callv, xs⟩ :: l) ⟨env, heap, next⟩ := by
  have hd' : dOk n (some d) = true := by simpa [dOk, Nat.blt_eq] using hd
  have he : EffOk P n ⟨env, heap, next⟩ ⟨some d, g, .callv, xs⟩ (callEff ⟨env, heap, next⟩ ⟨some d, g, .callv, xs⟩ [] bi r [] 0) :=
    callv_ok rfl hd' hg hx hF hv rfl rfl (.inr ⟨hfl, fun i o h => by simp at h⟩)
  have hgo : GO P n K (⟨some d, g, .callv, xs⟩ :: l) ⟨env, heap, next⟩ = RG P n [] K (⟨some d, g, .callv, xs⟩ :: l) [] ⟨env, heap, next⟩ := by
    rw [GO]
    have : opEff n ⟨env, heap, next⟩ ⟨some d, g, .callv, xs⟩ = none := by
      unfold opEff
      simp only [hd', if_true, hg, hx]
      rfl
    rw [this]
  rw [hgo]
  refine RG.call he ?_
  simp only [St.app, callEff, Option.map_some, envApp, callWh, List.range_zero, List.map_nil, happL]
  rw [renP_closed _ hr]
  exact k
theorem RD.callvbp {g : Option (Nat × Bool)} {f : FuncId} {first caps : List PVal} {r : PVal} (bi : List Nat) (hd : Nat.blt d n = true) (hg : guarded env g = some true) (hx : evalXs env xs = some (.fn f first caps :: rest)) (hv : viewP.go [] (pickH heap bi) (first ++ rest ++ caps) = some qs) (hF : FnOk P f qs [] 0 r [] 0)
    (hfl : r.flat = true) (hr : r.closed = true) (k : RD P n dr K l ({ rt := tmpsG g ++ tmpsX xs, wt := some (d, .undef), rh := bi, wh := [], nw := [] } :: racc) ⟨(d, r) :: env, heap, next⟩) : RD P n dr K (⟨some d, g, .callv, xs⟩ :: l) racc ⟨env, heap, next⟩ := by
  have hd' : dOk n (some d) = true := by simpa [dOk, Nat.blt_eq] using hd
  refine RD.eff (callv_ok (st := ⟨env, heap, next⟩) (ao := ⟨some d, g, .callv, xs⟩) rfl hd' hg hx hF (sl := []) (bi := bi) hv rfl rfl (.inr ⟨hfl, fun i o h => by simp at h⟩)) ?_
  simp only [St.app, Eff.er, callEff, Option.map_some, envApp, callWh, List.range_zero, List.map_nil, happL, List.nil_append]
  rw [renP_closed _ hr]
  exact k
theorem RD.callvp {g : Option (Nat × Bool)} {f : FuncId} {first caps : List PVal} {r : PVal} (hd : Nat.blt d n = true) (hg : guarded env g = some true) (hx : evalXs env xs = some (.fn f first caps :: rest)) (hF : FnOk P f (first ++ rest ++ caps) [] 0 r [] 0)
    (hp : PVal.closed.go (first ++ rest ++ caps) = true) (hr : r.closed = true) (k : RD P n dr K l ({ rt := tmpsG g ++ tmpsX xs, wt := some (d, .undef), rh := [], wh := [], nw := [] } :: racc) ⟨(d, r) :: env, heap, next⟩) : RD P n dr K (⟨some d, g, .callv, xs⟩ :: l) racc ⟨env, heap, next⟩ := by
  have hd' : dOk n (some d) = true := by simpa [dOk, Nat.blt_eq] using hd
  refine RD.eff (callv_ok (st := ⟨env, heap, next⟩) (ao := ⟨some d, g, .callv, xs⟩) rfl hd' hg hx hF (sl := []) (bi := []) (viewPs_closed _ _ hp) rfl rfl (.inl rfl)) ?_
  simp only [St.app, Eff.er, callEff, Option.map_some, envApp, callWh, List.range_zero, List.map_nil, happL, List.append_nil]
  rw [renP_closed _ hr]
  exact k
end

theorem closedGo_cons {p : PVal} {r : List PVal} (h : p.closed = true) (k : PVal.closed.go r = true) : PVal.closed.go (p :: r) = true := by simp only [PVal.closed.go, h, k, Bool.and_self]
theorem closed_fn {f : FuncId} {a b : List PVal} (h : PVal.closed.go a = true ∧ PVal.closed.go b = true) : PVal.closed (.fn f a b) = true := by simp only [PVal.closed, h.1, h.2, Bool.and_self]
theorem closed3 {a b c : List PVal} (h1 : PVal.closed.go a = true) (h2 : PVal.closed.go b = true) (h3 : PVal.closed.go c = true) : PVal.closed.go (a ++ b ++ c) = true := by simp only [closed_append, h1, h2, h3, Bool.and_self]
theorem EffOk.weak {P : Program} {n : Nat} {st : St} {ao : AO} {e : Eff} {d : Nat} {p p' : PVal} (h : EffOk P n st ao e) (hw : e.wt = some (d, p)) (hp : WeakP p p') : EffOk P n st ao { e with wt := some (d, p') } := by
  refine ⟨h.1, fun ops i o ho ht => ⟨(h.2 ops i o ho ht).1, fun rr ds D m ok env heap a w Q K hS hrt hrh hrc hnw hK => (h.2 ops i o ho ht).2 rr ds D m ok env heap a w Q K hS hrt hrh hrc hnw fun D' m' a' w' hS' h1 h2 h3 => hK D' m' a' w' ⟨hS'.hp, fun t q hq => ?_, hS'.df, hS'.sz⟩ h1 h2 h3⟩⟩
  by_cases ht : t = d
  · subst ht
    have hq' : q = p' := by simpa [eapp] using hq.symm
    subst hq'
    obtain ⟨v, hv, hr⟩ := hS'.tmp t p (by rw [hw]; simp [eapp])
    exact ⟨v, hv, hr.weak hp⟩
  · refine hS'.tmp t q ?_
    rw [hw]
    simpa [eapp, ht] using hq
theorem viewP_fnc {sl : List Nat} {bs : List (AId × AObj)} {f : FuncId} {a b : List PVal} (h : PVal.closed.go a = true ∧ PVal.closed.go b = true) : viewP sl bs (.fn f a b) = some (.fn f a b) := viewP_closed _ _ (by simp [PVal.closed, h])

/-! ### A row that is written out and looked at alone: it is nobody's own -/
section
variable {P : Program} {o : Oper} {ρ : Operand → Value} {D : AId → Prop} {m : AId → Option Blk} {ok : Nat → Prop} {heap : AId → Option AObj} {w : World}
theorem core_bsro {t e : TypeId} {len : Nat} {parts : Array (Nat × Operand)} {i : TypeInfo} {xs : List Operand} {ps : List PVal} (h : o.op = .buildSlice t len parts) (ht : P.underlying t = some (.slice e)) (hi : P.info? e = some i) (hpf : partsFull 0 parts.toList = some xs)
    (hlen : xs.length = len) (hpos : 0 < i.size) (hcap : len * i.size ≤ 2 ^ 24) (hz : (i.zero.map fun z => z.cells.size) = some i.size) (hH : SimH D m ok heap w) (hx : Reps w (okn ok m) D m false ps (xs.map ρ))
    {es : List (List PVal)} (hes : elemsOf i.size ps = some es) : Out P o ρ D m ok heap w { v := .ro i.size es } := by
    skip
    obtain ⟨e1, e2, e3⟩ := elemsOf_spec hes
    obtain ⟨z, hz1, hz2⟩ := Option.map_eq_some_iff.1 hz
    have hpl : ps.length = len := by have := hx.1; simp at this; omega
    have hparts := partsFull_spec hpf
    -- each value's cells
    have hcells : ∀ (k : Nat) (u : Value), (xs.map ρ)[k]? = some u → ∃ p el, ps[k]? = some p ∧ es[k]? = some el ∧ (∀ v ∈ u.cells.toList, v.oneCell' = true) ∧ Reps w (okn ok m) D m true el u.cells.toList := by
      intro k u hu
      have hk : k < ps.length := by rw [hx.1]; exact (List.getElem?_eq_some_iff.1 hu).1
      have hk' : k < es.length := by omega
      have hp := List.getElem?_eq_getElem hk
      have he := List.getElem?_eq_getElem hk'
      obtain ⟨g1, g2⟩ := e3 k _ _ hp he
      obtain ⟨k1, k2⟩ := cells_rep ((hx.2 k _ u hp hu).close g2) g1
      exact ⟨_, _, hp, he, k1, k2⟩
    have husz : ∀ u ∈ xs.map ρ, u.cells.size = i.size := by
      intro u hu
      obtain ⟨k, hk, rfl⟩ := List.mem_iff_getElem.1 hu
      obtain ⟨p, el, hp, he, _, g⟩ := hcells k _ (List.getElem?_eq_getElem hk)
      have := g.1
      rw [e2 el (List.mem_of_getElem? he)] at this
      simpa using this.symm
    obtain ⟨vs', f1, f2⟩ := fill_full (size := i.size) (xs.map ρ) 0 ((Array.range (len * i.size)).map (fun j => z.cells[j % z.cells.size]!)) husz (by simp [hlen])
    have hvs' : vs'.toList = ((xs.map ρ).map (·.cells.toList)).flatten := by
      rw [f2]
      simp [hlen]
    have hfl := flat_len (ls := (xs.map ρ).map (·.cells.toList)) (sz := i.size) (fun l hl => by
      obtain ⟨u, hu, rfl⟩ := List.mem_map.1 hl
      simpa using husz u hu)
    have hvsz : vs'.size = len * i.size := by
      rw [← Array.length_toList, hvs', hfl]
      simp [hlen]
    have hrun : (execOp ρ o).run P w = .ok (.value (.slice (some ⟨w.heap.size, 0, none⟩) len len)) (w.alloc (.cells vs' e)) := by
      unfold execOp
      simp only [h]
      have hids : (Array.map (fun x : Nat × Operand => (x.1, ρ x.2)) parts).toList = idxd 0 (xs.map ρ) := by
        rw [Array.toList_map, hparts]
        exact idxd_map ρ 0 xs
      simp only [Sem.run_bind, Instr.buildSlice, run_underlying ht, Result.andThen_ok, run_sizeOf hi]
      rw [if_neg (by omega)]
      by_cases h0 : len * i.size = 0
      · simp only [h0, if_true] at f1 ⊢
        simp only [Sem.run_bind, Sem.run_pure, Result.andThen_ok]
        have hl0 : xs = [] := by
          have : len = 0 := by
            rcases Nat.mul_eq_zero.1 h0 with h' | h'
            · exact h'
            · omega
          exact List.eq_nil_of_length_eq_zero (by omega)
        subst hl0
        simp only [List.map_nil, idxd, Instr.fill] at f1 hids
        injection f1 with f1
        subst f1
        rw [hids]
        simp [Instr.fill, newRow, Array.range_zero']
      · simp only [h0, if_false]
        simp only [Sem.run_bind, Sem.run_pure, Result.andThen_ok, zeroValue, typeInfo, run_program, hi, hz1]
        rw [hids, f1]
        simp [newRow]
    have hk : ∀ b, b < w.heap.size → (w.alloc (.cells vs' e)).heap[b]? = w.heap[b]? := fun b hb => heap_alloc_old w _ hb
    have hsz1 : w.heap.size ≤ (w.alloc (.cells vs' e)).heap.size := by
      rcases Nat.lt_or_ge (w.alloc (.cells vs' e)).heap.size w.heap.size with h' | h'
      · have h1 := hk _ h'
        rw [Array.getElem?_eq_none (Nat.le_refl _), Array.getElem?_eq_getElem h'] at h1
        cases h1
      · exact h'
    have hst : Step m w m (w.alloc (.cells vs' e)) := ⟨rfl, Tp.same rfl rfl, rfl, hsz1, fun b hb _ => hk b hb, fun id b t h => .inl ⟨id, t, h⟩⟩
    have hrow : RepObj (w.alloc (.cells vs' e)) ok D m (.row i.size e es) (.at w.heap.size len) := by
      refine row_new (ls := (xs.map ρ).map (·.cells.toList)) (heap_alloc_new w _) hvsz (by rw [hvs']; exact List.prefix_rfl) (by omega) (by
        have : len * 1 ≤ len * i.size := Nat.mul_le_mul_left _ hpos
        simp only [maxLen]; omega) hpos e2 (fun l hl => by
          obtain ⟨u, hu, rfl⟩ := List.mem_map.1 hl
          simpa using husz u hu) (by simp [hlen]; omega) (fun l hl v hv => ?_) (fun k e' l he' hl => ?_)
      · obtain ⟨u, hu, rfl⟩ := List.mem_map.1 hl
        obtain ⟨k, hk, rfl⟩ := List.mem_iff_getElem.1 hu
        obtain ⟨p, el, hp, he, g1, g⟩ := hcells k _ (List.getElem?_eq_getElem hk)
        exact g1 v hv
      · rw [List.getElem?_map] at hl
        obtain ⟨u, hu, rfl⟩ := Option.map_eq_some_iff.1 hl
        obtain ⟨p, el, hp, he, g1, g⟩ := hcells k u hu
        rw [he'] at he
        injection he with he
        subst he
        exact g.mono fun p v hr => hr.step hst (fun _ h => h) (fun _ _ => .inl rfl)
    have hokn : okn ok m w.heap.size := ⟨hH.fresh _ (Nat.le_refl _), fun id t h => absurd (hH.lt id _ t h) (Nat.lt_irrefl _)⟩
    obtain ⟨vs, g1, g2, g3, g4, g5, g6, g7⟩ := hrow
    refine ⟨_, _, D, m, .inl hrun, ⟨fun id ob ho => ?_, hH.dom, hH.inj, fun id b t h => Nat.lt_of_lt_of_le (hH.lt id b t h) hsz1, hH.okm, fun b hb => hH.fresh b (Nat.le_trans hsz1 hb), fun x hx => by obtain ⟨q1, o, q2, q3⟩ := hH.glob x hx; exact ⟨q1, o, (hst.keep x.1 (Array.getElem?_eq_some_iff.1 q2).1 fun id t => q1 id t).trans q2, q3⟩⟩, hst, ?_, fun id => by simp, fun _ _ => .inl rfl⟩
    · obtain ⟨B, hB, hr⟩ := hH.obj id ob ho
      exact ⟨B, hB, hr.step hst (fun b t e' => by subst e'; exact hk b (hH.lt id b t hB)) (fun _ h => h) (fun _ _ => .inl rfl)⟩
    · have hmx : len ≤ maxLen := g4
      refine .ro (ad := ⟨w.heap.size, 0, none⟩) (fun i' j => (vs[i' * i.size + j]?).getD undef) (by omega) (Nat.le_refl _) hmx g6 (fun _ => rfl) (fun i' j e' p he hp => ?_) (fun i' j e' p he hp => ?_)
      · obtain ⟨u, q1, q2, q3⟩ := g7 i' j e' p he hp
        rw [q1]
        refine ⟨hokn, ?_, q2⟩
        show _ = some u
        rw [add_flat, cell_at g1, Nat.zero_add]
        exact q1
      · obtain ⟨u, q1, q2, q3⟩ := g7 i' j e' p he hp
        rw [q1]
        exact q3


end

theorem bsro_ok {P : Program} {n : Nat} {st : St} {ao : AO} {sz : Nat} {ty : TypeId} {ps : List PVal} {es : List (List PVal)} (hop : ao.op = .bslice sz ty) (hd : dOk n ao.d = true) (hg : guarded st.env ao.g = some true) (hx : evalXs st.env ao.xs = some ps) (hes : elemsOf sz ps = some es) :
    EffOk P n st ao { rt := tmpsG ao.g ++ tmpsX ao.xs, wt := ao.d.map fun d => (d, .ro sz es), rh := [], wh := [], nw := [] } := by
  refine ⟨⟨0, rfl⟩, fun ops i o ho ht => ?_⟩
  obtain ⟨xs, h1, h2, h3, h4⟩ := transOper_some ht
  refine ⟨(fun x hx => by cases hx), ?_⟩
  intro rr ds D m ok env heap a w Q K hS hrt hrh _ hnw hK
  simp only at hrt hrh hnw hK
  have hdd : ∀ t, o.dst = some t → t < n := by
    intro t e
    rw [h4, e] at hd
    simpa [dOk] using hd
  have hw := wanted_of (P := P) hS h2 hg fun t ht => hrt t (List.mem_append_left _ ht)
  have hreps := evalXs_rep (P := P) hS h3 hx fun t ht => hrt t (List.mem_append_right _ ht)
  unfold wpOpIn
  simp only [ho, hw, if_true]
  unfold Oper.wpIn
  refine ⟨fun _ _ => trivial, ?_⟩
  rw [Oper.semAt_eq _ _ _ (transOper_nd ht (by rw [hop]; exact fun h => by cases h))]
  rw [hop] at h1
  replace h1 := h1.resolve_right (fun h => by cases h)
  have key : Out P o a.eval D m ok heap w { v := .ro sz es } := by
    replace h1 := trans_of0 h1 (by intro q h; cases h)
    generalize hoo : o.op = oo at h1
    unfold trans0 at h1
    split at h1
    case h_7 t len parts =>
      split at h1
      · rename_i e hte
        split at h1
        · rename_i i xs' hi hpf
          split at h1
          · rename_i hcond
            injection h1 with h1; injection h1 with e1 e2
            injection e1 with e1 e3
            subst e1 e2 e3
            exact core_bsro hoo hte hi hpf hcond.1 hcond.2.1 hcond.2.2.1 hcond.2.2.2 hS.hp hreps hes
          · cases h1
        · cases h1
      · cases h1
    all_goals try (first
      | (injection h1 with h1; injection h1 with e1 e2; cases e1; done)
      | cases h1)
    all_goals try (first
      | (obtain ⟨_, _, e1⟩ := Option.map_eq_some_iff.1 h1; injection e1 with e1 e2; cases e1; done)
      | (repeat' split at h1) <;> first
        | cases h1
        | (injection h1 with h1; injection h1 with e1 e2; cases e1; done)
        | (obtain ⟨_, _, e1⟩ := Option.bind_eq_some_iff.1 h1; split at e1 <;> first | (cases e1; done) | (injection e1 with e1; injection e1 with e1 e2; cases e1; done))
        | (obtain ⟨_, _, e1⟩ := Option.map_eq_some_iff.1 h1; injection e1 with e1 e2; cases e1; done))
  obtain ⟨v, w', D', m', hrun, k1, k2, k3, k4, k5⟩ := key
  have hD : ∀ id, D id → D' id := fun id h => (k4 id).2 (.inl h)
  have := hK D' m' (a.put o.dst v) w' (by rw [h4]; exact hS.put k1 k2 hD k5 o.dst _ v hdd k3) k2 k5 k4
  rcases hrun with hrun | ⟨rfl, hrun⟩
  · rw [hrun]; exact this
  · rw [hrun]; exact this

theorem elemsOf_map {α : Type} {c : α → List PVal} {sz : Nat} {ps : List PVal} {X : List α} (h : ps.map PVal.cells = X.map fun x => some (c x)) (h1 : ∀ x ∈ X, (c x).length = sz) (h2 : PVal.closed.go ps = true) : elemsOf sz ps = some (X.map c) := by
  induction ps generalizing X with
  | nil => cases X <;> simp_all [elemsOf]
  | cons p ps ih =>
    cases X with
    | nil => simp at h
    | cons x X =>
      simp only [List.map_cons, List.cons.injEq] at h
      simp only [PVal.closed.go, Bool.and_eq_true] at h2
      have := ih h.2 (fun y hy => h1 y (List.mem_cons_of_mem _ hy)) h2.2
      simp only [elemsOf, h.1, this, h1 x List.mem_cons_self, h2.1, and_self, if_true, List.map_cons]
section
variable {P : Program} {n : Nat} {K : St → Prop} {l : List AO} {env : List (Nat × PVal)} {heap : List (AId × AObj)} {next d : Nat} {xs : List AX} {ps : List PVal} {dr : List (List Nat)} {racc : List Eff}
theorem RD.done0 {racc : List Eff} (k : K ⟨env, heap, next⟩) : RD P n [] K [] racc ⟨env, heap, next⟩ := fun acc ha => RG.done (.inl rfl) k
/-- An operation that changes no object; less is said of what it gives. -/
theorem RD.pureW {g : Option (Nat × Bool)} {op : AOp} {v v' : PVal} {rh : List AId} (hd : Nat.blt d n = true) (hg : guarded env g = some true) (hx : evalXs env xs = some ps) (hc : core op ps (fun id => heap.lookup id) next = some ⟨v, rh, [], []⟩) (hv : WeakP v v')
    (k : RD P n dr K l ({ rt := tmpsG g ++ tmpsX xs, wt := some (d, .undef), rh := rh, wh := [], nw := [] } :: racc) ⟨(d, v') :: env, heap, next⟩) : RD P n dr K (⟨some d, g, op, xs⟩ :: l) racc ⟨env, heap, next⟩ := by
  have hd' : dOk n (some d) = true := by simpa [dOk, Nat.blt_eq] using hd
  have hc' : core op ps (St.h ⟨env, heap, next⟩) next = some ⟨v, rh, [], []⟩ := hc
  refine RD.eff (EffOk.weak (e := { rt := tmpsG g ++ tmpsX xs, wt := some (d, v), rh, wh := [], nw := [] }) (opEff_ok ?_) rfl hv) k
  unfold opEff
  simp only [hd', if_true, hg, hx, hc', Option.map_some]
theorem RD.bsro {g : Option (Nat × Bool)} {sz : Nat} {ty : TypeId} {es : List (List PVal)} (hd : Nat.blt d n = true) (hg : guarded env g = some true) (hx : evalXs env xs = some ps) (he : elemsOf sz ps = some es)
    (k : RD P n dr K l ({ rt := tmpsG g ++ tmpsX xs, wt := some (d, .undef), rh := [], wh := [], nw := [] } :: racc) ⟨(d, .ro sz es) :: env, heap, next⟩) : RD P n dr K (⟨some d, g, .bslice sz ty, xs⟩ :: l) racc ⟨env, heap, next⟩ := by
  have hd' : dOk n (some d) = true := by simpa [dOk, Nat.blt_eq] using hd
  exact RD.eff (bsro_ok (st := ⟨env, heap, next⟩) (ao := ⟨some d, g, .bslice sz ty, xs⟩) rfl hd' hg hx he) k
end

/-! ### A region in the text's order, behind a word that nothing unfolds -/
structure GX (P : Program) (n : Nat) (K : St → Prop) (l : List AO) (st : St) : Prop where
  run : GO P n K l st
section
variable {P : Program} {n k0 : Nat} {K : St → Prop} {l : List AO} {env : List (Nat × PVal)} {heap heap' : List (AId × AObj)} {next next' d : Nat} {op : AOp} {xs : List AX} {ps qs rest : List PVal} {v v' : PVal} {rh : List AId} {wh : List (AId × Option AObj)} {nw : List AId} {g : Option (Nat × Bool)}
theorem WK.regx {Q : Exit → St → Prop} {st : St} {r : List AC} (hP : P.follows .mixedOrders = true) (h : GX P n (fun s => WK P n k0 r Q s) l st) : WK P n k0 (.reg [] l :: r) Q st := WK.reg hP h.run
theorem GX.done (k : K ⟨env, heap, next⟩) : GX P n K [] ⟨env, heap, next⟩ := ⟨GO.done k⟩
theorem GX.pure (hd : Nat.blt d n = true) (hg : guarded env g = some true) (hx : evalXs env xs = some ps) (hc : core op ps (fun id => heap.lookup id) next = some ⟨v, rh, [], []⟩) (hv : v = v')
    (k : GX P n K l ⟨(d, v') :: env, heap, next⟩) : GX P n K (⟨some d, g, op, xs⟩ :: l) ⟨env, heap, next⟩ := ⟨GO.pure hd hg hx hc hv k.run⟩
theorem GX.step (hd : Nat.blt d n = true) (hg : guarded env g = some true) (hx : evalXs env xs = some ps) (hc : core op ps (fun id => heap.lookup id) next = some ⟨v, rh, wh, nw⟩) (hv : v = v') (hh : happL wh heap = heap') (hn : next + nw.length = next')
    (k : GX P n K l ⟨(d, v') :: env, heap', next'⟩) : GX P n K (⟨some d, g, op, xs⟩ :: l) ⟨env, heap, next⟩ := ⟨GO.step hd hg hx hc hv hh hn k.run⟩
theorem GX.step0 (hg : guarded env g = some true) (hx : evalXs env xs = some ps) (hc : core op ps (fun id => heap.lookup id) next = some ⟨v, rh, wh, nw⟩) (hh : happL wh heap = heap') (hn : next + nw.length = next')
    (k : GX P n K l ⟨env, heap', next'⟩) : GX P n K (⟨none, g, op, xs⟩ :: l) ⟨env, heap, next⟩ := ⟨GO.step0 hg hx hc hh hn k.run⟩
theorem GX.skip (hd : Nat.blt d n = true) (hg : guarded env g = some false) (k : GX P n K l ⟨(d, .hole) :: env, heap, next⟩) : GX P n K (⟨some d, g, op, xs⟩ :: l) ⟨env, heap, next⟩ := ⟨GO.skip hd hg k.run⟩
theorem GX.skip0 (hg : guarded env g = some false) (k : GX P n K l ⟨env, heap, next⟩) : GX P n K (⟨none, g, op, xs⟩ :: l) ⟨env, heap, next⟩ := ⟨GO.skip0 hg k.run⟩
theorem GX.idxT {α : Type} {c : α → List PVal} {L : List α} {x : α} {sz : Nat} {ik : IntKind} {i : Int} (hd : Nat.blt d n = true) (hg : guarded env g = some true) (hx : evalXs env xs = some [.ro sz (L.map c), .int ik i]) (hi : 0 ≤ i) (he : L[i.toNat]? = some x)
    (k : GX P n K l ⟨(d, .rptr (c x)) :: env, heap, next⟩) : GX P n K (⟨some d, g, .idxA sz, xs⟩ :: l) ⟨env, heap, next⟩ := ⟨GO.idxT hd hg hx hi he k.run⟩
theorem GX.appT {α : Type} {c : α → List PVal} {L X : List α} {id sz by_ m : Nat} {ty : TypeId} {x : PVal} {rh2 : List AId} (hd : Nat.blt d n = true) (hg : guarded env g = some true) (hx : evalXs env xs = some [.own id sz 0 m, x]) (ho : heap.lookup id = some (.row sz ty (L.map c)))
    (he : elems (fun id => heap.lookup id) x = some (sz, X.map c, rh2)) (hb : (L.length + X.length) * by_ ≤ 140737488355328) (hl : L.length + X.length ≤ 9223372036854775807) (hm : m = L.length) (hid : rh2.contains id = false) (hh : happL [(next, some (.row sz ty ((L ++ X).map c))), (id, none)] heap = heap') (hn : next + 1 = next')
    (k : GX P n K l ⟨(d, .own next sz 0 (L ++ X).length) :: env, heap', next'⟩) : GX P n K (⟨some d, g, .append sz ty by_, xs⟩ :: l) ⟨env, heap, next⟩ := ⟨GO.appT hd hg hx ho he hb hl hm hid hh hn k.run⟩
theorem GX.appnil {α : Type} {c : α → List PVal} {X : List α} {sz by_ : Nat} {ty : TypeId} {x : PVal} {rh2 : List AId} (hd : Nat.blt d n = true) (hg : guarded env g = some true) (hx : evalXs env xs = some [.nils, x])
    (he : elems (fun id => heap.lookup id) x = some (sz, X.map c, rh2)) (hb : X.length * by_ ≤ 140737488355328) (hl : X.length ≤ 9223372036854775807) (hh : happL [(next, some (.row sz ty (X.map c)))] heap = heap') (hn : next + 1 = next')
    (k : GX P n K l ⟨(d, .own next sz 0 X.length) :: env, heap', next'⟩) : GX P n K (⟨some d, g, .append sz ty by_, xs⟩ :: l) ⟨env, heap, next⟩ := ⟨GO.appnil hd hg hx he hb hl hh hn k.run⟩
theorem GX.shl {ek : EK} {k k' : IntKind} {a b : Int} (hd : Nat.blt d n = true) (hg : guarded env g = some true) (hx : evalXs env xs = some [.int k a, .int k' b]) (hb : 0 ≤ b)
    (kk : GX P n K l ⟨(d, .int k (shl_ k a b)) :: env, heap, next⟩) : GX P n K (⟨some d, g, .bin .shl ek, xs⟩ :: l) ⟨env, heap, next⟩ := ⟨GO.shl hd hg hx hb kk.run⟩
theorem GX.shr {ek : EK} {k k' : IntKind} {a b : Int} (hd : Nat.blt d n = true) (hg : guarded env g = some true) (hx : evalXs env xs = some [.int k a, .int k' b]) (hb : 0 ≤ b)
    (kk : GX P n K l ⟨(d, .int k (shr_ k a b)) :: env, heap, next⟩) : GX P n K (⟨some d, g, .bin .shr ek, xs⟩ :: l) ⟨env, heap, next⟩ := ⟨GO.shr hd hg hx hb kk.run⟩
theorem GX.callp {f : FuncId} {r : PVal} (hd : Nat.blt d n = true) (hg : guarded env g = some true) (hx : evalXs env xs = some ps) (hF : FnOk P f ps [] 0 r [] 0) (hp : PVal.closed.go ps = true) (hr : r.closed = true)
    (k : GX P n K l ⟨(d, r) :: env, heap, next⟩) : GX P n K (⟨some d, g, .call f, xs⟩ :: l) ⟨env, heap, next⟩ := ⟨GO.callp hd hg hx hF hp hr k.run⟩
theorem GX.callbp {f : FuncId} {r : PVal} (bi : List Nat) (hd : Nat.blt d n = true) (hg : guarded env g = some true) (hx : evalXs env xs = some ps) (hv : viewP.go [] (pickH heap bi) ps = some qs) (hF : FnOk P f qs [] 0 r [] 0)
    (hfl : r.flat = true) (hr : r.closed = true) (k : GX P n K l ⟨(d, r) :: env, heap, next⟩) : GX P n K (⟨some d, g, .call f, xs⟩ :: l) ⟨env, heap, next⟩ := ⟨GO.callbp bi hd hg hx hv hF hfl hr k.run⟩
theorem GX.callvp {f : FuncId} {first caps : List PVal} {r : PVal} (hd : Nat.blt d n = true) (hg : guarded env g = some true) (hx : evalXs env xs = some (.fn f first caps :: rest)) (hF : FnOk P f (first ++ rest ++ caps) [] 0 r [] 0)
    (hp : PVal.closed.go (first ++ rest ++ caps) = true) (hr : r.closed = true) (k : GX P n K l ⟨(d, r) :: env, heap, next⟩) : GX P n K (⟨some d, g, .callv, xs⟩ :: l) ⟨env, heap, next⟩ := ⟨GO.callvp hd hg hx hF hp hr k.run⟩
theorem GX.callvbp {f : FuncId} {first caps : List PVal} {r : PVal} (bi : List Nat) (hd : Nat.blt d n = true) (hg : guarded env g = some true) (hx : evalXs env xs = some (.fn f first caps :: rest)) (hv : viewP.go [] (pickH heap bi) (first ++ rest ++ caps) = some qs) (hF : FnOk P f qs [] 0 r [] 0)
    (hfl : r.flat = true) (hr : r.closed = true) (k : GX P n K l ⟨(d, r) :: env, heap, next⟩) : GX P n K (⟨some d, g, .callv, xs⟩ :: l) ⟨env, heap, next⟩ := ⟨GO.callvbp bi hd hg hx hv hF hfl hr k.run⟩
end
/-! ### Parts of rows; elements of own rows -/
theorem viewP_own_len {sl : List Nat} {bs : List (AId × AObj)} {id sz lo n n' j : Nat} (hp : posAt sl id 0 = some j) (hm : n = n') : viewP sl bs (.own id sz lo n) = some (.own j sz lo n') := by
  subst hm
  simp only [viewP, hp]
theorem view_rowM {α : Type} {c : α → List PVal} {L : List α} {sl : List Nat} {bs : List (AId × AObj)} {id sz m : Nat} {ty : TypeId} (hp : posAt sl id 0 = none) (ho : bs.lookup id = some (.row sz ty (L.map c))) (hm : m = L.length) : viewP sl bs (.own id sz 0 m) = some (.ro sz (L.map c)) :=
  view_row hp ho (by rw [List.length_map]; exact hm)
theorem sl_all {α : Type} {c : α → List PVal} {sz : Nat} (L : List α) : PVal.ro sz (((L.map c).drop 0).take ((L.map c).length - 0)) = .ro sz (L.map c) := by
  rw [List.drop_zero, Nat.sub_zero, List.take_of_length_le (Nat.le_refl _)]
section
variable {P : Program} {n k0 : Nat} {K : St → Prop} {l : List AO} {env : List (Nat × PVal)} {heap heap' : List (AId × AObj)} {next next' d : Nat} {xs : List AX} {v v' : PVal} {g : Option (Nat × Bool)} {α : Type} {c : α → List PVal} {L M : List α} {x x' : α} {id sz j off o' : Nat} {ty : TypeId} {dr : List (List Nat)} {racc : List Eff}

theorem core_sliceLo {h : Heap} {nx : AId} {k : IntKind} {i : Int} (h0 : 0 ≤ i) (h1 : i ≤ (L.length : Int)) (hM : L.drop i.toNat = M) : core (.slice sz true false) [.ro sz (L.map c), .int k i] h nx = some { v := .ro sz (M.map c) } := by
  subst hM
  simp only [core, sbnd, List.length_map]
  rw [if_pos ⟨h0, h1⟩]
  simp only [if_true]
  congr 3
  rw [← List.map_drop, List.take_of_length_le (by simp)]
theorem core_sliceHi {h : Heap} {nx : AId} {k : IntKind} {i : Int} (h0 : 0 ≤ i) (h1 : i ≤ (L.length : Int)) (hM : L.take i.toNat = M) : core (.slice sz false true) [.ro sz (L.map c), .int k i] h nx = some { v := .ro sz (M.map c) } := by
  subst hM
  simp only [core, sbnd, List.length_map]
  rw [if_pos ⟨h0, h1⟩]
  simp only [if_true]
  congr 3
  rw [List.drop_zero, Nat.sub_zero, ← List.map_take]
theorem core_sliceLH {h : Heap} {nx : AId} {k k' : IntKind} {i u : Int} (h0 : 0 ≤ i) (h1 : i ≤ u) (h2 : u ≤ (L.length : Int)) (hM : (L.drop i.toNat).take (u.toNat - i.toNat) = M) : core (.slice sz true true) [.ro sz (L.map c), .int k i, .int k' u] h nx = some { v := .ro sz (M.map c) } := by
  subst hM
  simp only [core, sbnd, List.length_map]
  rw [if_pos ⟨h0, h1, h2⟩]
  simp only [if_true]
  congr 3
  rw [← List.map_drop, ← List.map_take]
theorem GX.sliceLo {k : IntKind} {i : Int} (hd : Nat.blt d n = true) (hg : guarded env g = some true) (hx : evalXs env xs = some [.ro sz (L.map c), .int k i]) (h0 : 0 ≤ i) (h1 : i ≤ (L.length : Int)) (hM : L.drop i.toNat = M)
    (kk : GX P n K l ⟨(d, .ro sz (M.map c)) :: env, heap, next⟩) : GX P n K (⟨some d, g, .slice sz true false, xs⟩ :: l) ⟨env, heap, next⟩ := GX.pure hd hg hx (core_sliceLo h0 h1 hM) rfl kk
theorem GX.sliceHi {k : IntKind} {i : Int} (hd : Nat.blt d n = true) (hg : guarded env g = some true) (hx : evalXs env xs = some [.ro sz (L.map c), .int k i]) (h0 : 0 ≤ i) (h1 : i ≤ (L.length : Int)) (hM : L.take i.toNat = M)
    (kk : GX P n K l ⟨(d, .ro sz (M.map c)) :: env, heap, next⟩) : GX P n K (⟨some d, g, .slice sz false true, xs⟩ :: l) ⟨env, heap, next⟩ := GX.pure hd hg hx (core_sliceHi h0 h1 hM) rfl kk
theorem GX.sliceLH {k k' : IntKind} {i u : Int} (hd : Nat.blt d n = true) (hg : guarded env g = some true) (hx : evalXs env xs = some [.ro sz (L.map c), .int k i, .int k' u]) (h0 : 0 ≤ i) (h1 : i ≤ u) (h2 : u ≤ (L.length : Int)) (hM : (L.drop i.toNat).take (u.toNat - i.toNat) = M)
    (kk : GX P n K l ⟨(d, .ro sz (M.map c)) :: env, heap, next⟩) : GX P n K (⟨some d, g, .slice sz true true, xs⟩ :: l) ⟨env, heap, next⟩ := GX.pure hd hg hx (core_sliceLH h0 h1 h2 hM) rfl kk
theorem RD.sliceLo {k : IntKind} {i : Int} (hd : Nat.blt d n = true) (hg : guarded env g = some true) (hx : evalXs env xs = some [.ro sz (L.map c), .int k i]) (h0 : 0 ≤ i) (h1 : i ≤ (L.length : Int)) (hM : L.drop i.toNat = M)
    (kk : RD P n dr K l ({ rt := tmpsG g ++ tmpsX xs, wt := some (d, .undef), rh := [], wh := [], nw := [] } :: racc) ⟨(d, .ro sz (M.map c)) :: env, heap, next⟩) : RD P n dr K (⟨some d, g, .slice sz true false, xs⟩ :: l) racc ⟨env, heap, next⟩ := RD.pure hd hg hx (core_sliceLo h0 h1 hM) rfl kk
theorem RD.sliceHi {k : IntKind} {i : Int} (hd : Nat.blt d n = true) (hg : guarded env g = some true) (hx : evalXs env xs = some [.ro sz (L.map c), .int k i]) (h0 : 0 ≤ i) (h1 : i ≤ (L.length : Int)) (hM : L.take i.toNat = M)
    (kk : RD P n dr K l ({ rt := tmpsG g ++ tmpsX xs, wt := some (d, .undef), rh := [], wh := [], nw := [] } :: racc) ⟨(d, .ro sz (M.map c)) :: env, heap, next⟩) : RD P n dr K (⟨some d, g, .slice sz false true, xs⟩ :: l) racc ⟨env, heap, next⟩ := RD.pure hd hg hx (core_sliceHi h0 h1 hM) rfl kk
theorem RD.sliceLH {k k' : IntKind} {i u : Int} (hd : Nat.blt d n = true) (hg : guarded env g = some true) (hx : evalXs env xs = some [.ro sz (L.map c), .int k i, .int k' u]) (h0 : 0 ≤ i) (h1 : i ≤ u) (h2 : u ≤ (L.length : Int)) (hM : (L.drop i.toNat).take (u.toNat - i.toNat) = M)
    (kk : RD P n dr K l ({ rt := tmpsG g ++ tmpsX xs, wt := some (d, .undef), rh := [], wh := [], nw := [] } :: racc) ⟨(d, .ro sz (M.map c)) :: env, heap, next⟩) : RD P n dr K (⟨some d, g, .slice sz true true, xs⟩ :: l) racc ⟨env, heap, next⟩ := RD.pure hd hg hx (core_sliceLH h0 h1 h2 hM) rfl kk

theorem GX.idxoT {m : Nat} {ik : IntKind} {i : Int} (hd : Nat.blt d n = true) (hg : guarded env g = some true) (hx : evalXs env xs = some [.own id sz 0 m, .int ik i]) (ho : heap.lookup id = some (.row sz ty (L.map c))) (hi : i = (j : Int)) (hj : j < m) (hm : m ≤ L.length)
    (k : GX P n K l ⟨(d, .eptr id sz j 0) :: env, heap, next⟩) : GX P n K (⟨some d, g, .idxA sz, xs⟩ :: l) ⟨env, heap, next⟩ := ⟨GO.idxo hd hg hx ho (by rw [List.length_map]; exact hm) hi hj k.run⟩
theorem GX.fldT {o off : Nat} (hd : Nat.blt d n = true) (hg : guarded env g = some true) (hx : evalXs env xs = some [.eptr id sz j o]) (ho : heap.lookup id = some (.row sz ty (L.map c))) (hj : j < L.length) (hv : o + off = o')
    (k : GX P n K l ⟨(d, .eptr id sz j o') :: env, heap, next⟩) : GX P n K (⟨some d, g, .fldA off, xs⟩ :: l) ⟨env, heap, next⟩ := ⟨GO.flde hd hg hx ho (by rw [List.length_map]; exact hj) hv k.run⟩
theorem GX.loaT {kd : Option Nat} (hd : Nat.blt d n = true) (hg : guarded env g = some true) (hx : evalXs env xs = some [.eptr id sz j off]) (ho : heap.lookup id = some (.row sz ty (L.map c))) (he : L[j]? = some x) (hv : peek kd (c x) off = some v')
    (k : GX P n K l ⟨(d, v') :: env, heap, next⟩) : GX P n K (⟨some d, g, .load kd, xs⟩ :: l) ⟨env, heap, next⟩ := by
  refine GX.pure (rh := [id]) (v := v') hd hg hx ?_ rfl k
  have hj := (List.getElem?_eq_some_iff.1 he).1
  have hg' : (L.map c).getD j [] = c x := by rw [List.getD_eq_getElem?_getD, List.getElem?_map, he]; rfl
  simp only [core, ho]
  rw [if_pos ⟨trivial, by rw [List.length_map]; exact hj⟩, hg', hv]
  rfl
theorem GX.stoT {nn : Nat} {vs : List PVal} (hg : guarded env g = some true) (hx : evalXs env xs = some [.eptr id sz j off, v]) (ho : heap.lookup id = some (.row sz ty (L.map c))) (he : L[j]? = some x) (hv : v.cells = some vs) (hn : vs.length = nn) (hoff : Nat.ble (off + nn) sz = true) (hc : v.closed = true)
    (hs : splice (c x) off vs = c x') (hh : setH id (.row sz ty ((L.set j x').map c)) heap = heap') (k : GX P n K l ⟨env, heap', next⟩) : GX P n K (⟨none, g, .store nn, xs⟩ :: l) ⟨env, heap, next⟩ := by
  subst hh
  have hj := (List.getElem?_eq_some_iff.1 he).1
  have hg' : (L.map c).getD j [] = c x := by rw [List.getD_eq_getElem?_getD, List.getElem?_map, he]; rfl
  refine GX.step0 (v := .hole) (rh := [id]) (wh := [(id, some (.row sz ty ((L.set j x').map c)))]) (nw := []) hg hx ?_ rfl rfl k
  simp only [core, ho, hv]
  rw [if_pos ⟨trivial, by rw [List.length_map]; exact hj, hn, Nat.le_of_ble_eq_true hoff, hc⟩, hg', hs, List.map_set]
end

end Go.Proofs.YtakallenldpkiaaDoor.Abs
