/- rib.All: a range over the function that living hands back. -/
import Derived.Test.YtmfggjebbhdejaaEn
import Derived.Test.YtmfggjebbhdejaaS1
import Derived.Test.YtmfggjebbhdejaaA30
import Derived.Test.YtmfggjebbhdejaaA33
set_option linter.unusedVariables false
set_option linter.unusedSimpArgs false
set_option maxRecDepth 10000
set_option maxHeartbeats 4000000
namespace Go.Proofs.Ytmfggjebbhdejaa.Abs
open Go

theorem may03_len {p : TPrefix} {c : Bool} (h : F28_crossroadsref03_May p = c) (hc : c = true) : p.N ≤ 32 := by
  subst hc
  unfold F28_crossroadsref03_May at h
  by_cases h1 : p.N < 0
  · omega
  · by_cases h2 : 32 < p.N
    · simp [h1, h2] at h
    · omega

theorem f53_ok (t : TTable) : FnOk Try.prog 53 [.agg (TTable.c t)] [] 0 (.fn 58 [] [.rptr (TTable.c t)]) [] 0 := by
  refine FnOk.wk i53 rfl rfl ?_
  change WK _ _ _ [ac53] _ ⟨[(0, .agg (TTable.c t))], [], 0⟩
  unfold ac53
  refine WK.sr mixed ?_
  refine GX.step (v' := .ptr 0 0) (heap' := [(0, .box (TTable.c t))]) (next' := 1) rfl rfl rfl rfl rfl rfl rfl ?_
  refine GX.m rfl ?_
  refine GX.done ?_
  refine WK.sr mixed ?_
  refine GX.q (.fn 58 [] [.ptr 0 0]) ?_
  refine GX.m rfl ?_
  refine GX.done ?_
  refine WK.ret ?_
  exact RetQ.fr [0] (.inr rfl) rfl rfl rfl rfl

/-- The candidates of a row that live, where each is told. -/
theorem livesL_take {t : TTable} : ∀ {r : List TCand} {l : List TCand}, livesL t r = some l → ∀ i, i < r.length → ∃ l1 x ok l2, livesL t (r.take i) = some l1 ∧ F19_rib_Lives t (r.getD i default) = some (x, ok) ∧ livesL t (r.take (i + 1)) = some (bif ok then l1 ++ [x] else l1) ∧ l = (bif ok then l1 ++ [x] else l1) ++ l2
  | [], l, h, i, hi => by simp at hi
  | c :: r, l, h, i, hi => by
    rw [livesL] at h
    cases hc : F19_rib_Lives t c with
    | none => rw [hc] at h; cases h
    | some y =>
      obtain ⟨x, ok⟩ := y
      rw [hc] at h
      simp only at h
      cases hr : livesL t r with
      | none => rw [hr] at h; cases h
      | some l' =>
        rw [hr] at h
        simp only at h
        injection h with h
        subst h
        cases i with
        | zero =>
          refine ⟨[], x, ok, l', rfl, hc, ?_, ?_⟩
          · simp only [Nat.zero_add, List.take_succ_cons, List.take_zero, livesL, hc]
            cases ok <;> rfl
          · cases ok <;> rfl
        | succ i =>
          obtain ⟨l1, x2, ok2, l2, h1, h2, h3, h4⟩ := livesL_take hr i (by simpa using hi)
          refine ⟨bif ok then x :: l1 else l1, x2, ok2, l2, ?_, by simpa using h2, ?_, ?_⟩
          · simp only [List.take_succ_cons, livesL, hc, h1]
          · rw [List.take_succ_cons, livesL, hc, h3]
            cases ok <;> cases ok2 <;> rfl
          · rw [h4]
            cases ok <;> cases ok2 <;> rfl

theorem livesL_full {t : TTable} {r l : List TCand} (h : livesL t r = some l) : livesL t (r.take r.length) = some l := by rw [List.take_length]; exact h

/-- The closure that living hands back hands over what lives. -/
theorem iter58 (h19 : ∀ (t0 : TTable) (c1 : TCand) (R : TCand × Bool), F19_rib_Lives t0 c1 = some R → FnOk Try.prog 19 [.agg (TTable.c t0), .agg (TCand.c c1)] [] 0 (.tup [.agg (TCand.c R.1), .bool R.2]) [] 0) (t : TTable) {l0 : List TCand} (hl0 : livesL t t.L = some l0) :
    IterOk Try.prog 58 [.rptr (TTable.c t)] (l0.map fun c => .agg (TCand.c c)) := by
  obtain ⟨c, hb, hac⟩ : ∃ c, Try.f58.body = some c ∧ transC Try.prog c = some ac58 := ⟨_, rfl, by kernel_rfl⟩
  refine IterOk.of Try.func58 (by kernel_rfl) hb hac (by kernel_rfl) (Nat.le_of_ble_eq_true (by kernel_rfl)) rfl fun l J hY => ?_
  change IW Try.prog 28 J ac58 _ 0 ⟨[(0, .yld l), (1, .rptr (TTable.c t))], [], 0⟩
  unfold ac58
  refine IW.seq (IW.ofC (W.wk (WK.regx mixed ?_)))
  refine GX.q (.rptr [.ro 10 (t.L.map TCand.c)]) ?_
  refine GX.q (.ro 10 (t.L.map TCand.c)) ?_
  refine GX.pure (v' := .int .i64 (t.L.length : Int)) rfl rfl rfl rfl (len_map _ _) ?_
  refine GX.m rfl ?_
  refine GX.done (WK.nil ?_)
  refine ⟨⟨[(0, .yld l), (1, .rptr (TTable.c t)), (8, .ro 10 (t.L.map TCand.c)), (9, .int .i64 (t.L.length : Int)), (10, .int .i64 ((0 : Nat) : Int))], [], 0⟩, Conv.keep [] [] [0, 1, 8, 9, 10] rfl rfl (viewE_cons rfl rfl (viewE_cons rfl rfl (viewE_cons rfl rfl (viewE_cons rfl rfl (viewE_cons rfl rfl viewE_nil))))) rfl rfl, ?_⟩
  show IW Try.prog 28 J (.block 0 (.loop ac58_1)) _ 0 _
  refine IW.block (IW.len (t := 8) rfl fun hlen => ?_)
  rw [List.length_map] at hlen
  refine IW.loop (fun f k s => ∃ i : Nat, i ≤ t.L.length ∧ f = t.L.length - i ∧ (∃ li, livesL t (t.L.take i) = some li ∧ k = li.length) ∧ s = ⟨[(0, .yld l), (1, .rptr (TTable.c t)), (8, .ro 10 (t.L.map TCand.c)), (9, .int .i64 (t.L.length : Int)), (10, .int .i64 (i : Int))], [], 0⟩) t.L.length
    ⟨0, Nat.zero_le _, rfl, ⟨[], by simp [livesL], rfl⟩, rfl⟩ ?_
  rintro f k s ⟨i, hi, rfl, ⟨li, hli, rfl⟩, rfl⟩
  unfold ac58_1
  refine IW.seq (IW.of (W.wk (WK.regx mixed ?_)))
  refine GX.q (.bool (decide ((i : Int) < (t.L.length : Int)))) ?_
  refine GX.done (WK.nil ?_)
  show IW Try.prog 28 J _ _ _ _
  refine IW.seq ?_
  rcases bool_two (decide ((i : Int) < (t.L.length : Int))) with hb | hb
  · rw [hb]
    refine IW.cond (b := false) rfl (fun h => by cases h) (fun _ => ?_)
    refine IW.of (W.exit ?_)
    have hi' : i = t.L.length := by have := of_decide_eq_false hb; omega
    subst hi'
    rw [livesL_full hl0] at hli
    injection hli with hli
    subst hli
    show (Exit.normal = Exit.normal ∨ Exit.normal = Exit.ret) ∧ _ = _
    exact ⟨.inl rfl, by simp⟩
  · rw [hb]
    obtain ⟨x52, hx, hd, hlt⟩ := drop_more hb
    obtain ⟨l1, x, ok, l2, e1, e2, e3, e4⟩ := livesL_take hl0 i hlt
    rw [hli] at e1
    injection e1 with e1
    subst e1
    have hx52 : t.L.getD i default = x52 := by
      have : t.L[i]? = some x52 := by simpa using hx
      simp [List.getD, this]
    rw [hx52] at e2
    refine IW.cond (b := true) rfl (fun _ => ?_) (fun h => by cases h)
    refine IW.of (W.skip ?_)
    show IW Try.prog 28 J _ _ _ _
    refine IW.seq (IW.block ?_)
    refine IW.seq (IW.of (W.wk (WK.regx mixed ?_)))
    refine GX.idxT (c := TCand.c) (x := x52) rfl rfl rfl (Int.natCast_nonneg _) hx ?_
    refine GX.q (.agg (TCand.c x52)) ?_
    refine GX.step (v' := .ptr 0 0) (heap' := [(0, .box [.int .u32 0, .int .i64 0, .int .i64 0, .int .i64 0, .int .i64 0, .int .i64 0, .int .u32 0, .bool false, .int .i64 0, .nils])]) (next' := 1) rfl rfl rfl rfl rfl rfl rfl ?_
    refine GX.step0 (heap' := [(0, .box (TCand.c x52))]) (next' := 1) rfl rfl rfl rfl rfl ?_
    refine GX.done (WK.nil ?_)
    show IW Try.prog 28 J _ _ _ _
    refine IW.seq (IW.of (W.wk (WK.regx mixed ?_)))
    refine GX.q (.agg (TTable.c t)) ?_
    refine GX.q (.agg (TCand.c x52)) ?_
    refine GX.callp (r := .tup [.agg (TCand.c x), .bool ok]) rfl rfl rfl (h19 t x52 (x, ok) e2) rfl rfl ?_
    refine GX.m rfl ?_
    refine GX.q (.agg (TCand.c x)) ?_
    refine GX.q (.bool ok) ?_
    refine GX.step (v' := .ptr 1 0) (heap' := [(0, .box (TCand.c x52)), (1, .box [.int .u32 0, .int .i64 0, .int .i64 0, .int .i64 0, .int .i64 0, .int .i64 0, .int .u32 0, .bool false, .int .i64 0, .nils])]) (next' := 2) rfl rfl rfl rfl rfl rfl rfl ?_
    refine GX.step0 (heap' := [(0, .box (TCand.c x52)), (1, .box (TCand.c x))]) (next' := 2) rfl rfl rfl rfl rfl ?_
    refine GX.m rfl ?_
    refine GX.done (WK.nil ?_)
    show IW Try.prog 28 J _ _ _ _
    refine IW.seq ?_
    cases ok with
    | false =>
      refine IW.of (W.wk (WK.regx mixed ?_))
      refine GX.m rfl ?_
      refine GX.m rfl ?_
      iterate 4 refine GX.skip rfl rfl ?_
      refine GX.q (.bool false) ?_
      refine GX.done (WK.nil ?_)
      show IW Try.prog 28 J _ _ _ _
      refine IW.cond (b := false) rfl (fun h => by cases h) (fun _ => ?_)
      refine IW.of (W.skip ?_)
      show IW Try.prog 28 J _ _ _ _
      refine IW.ofC (W.wk (WK.regx mixed ?_))
      refine GX.pure (v' := .int .i64 ((i + 1 : Nat) : Int)) rfl rfl rfl rfl (congrArg (PVal.int .i64) (wrap_up hlt hlen)) ?_
      refine GX.m rfl ?_
      refine GX.done (WK.nil ?_)
      exact ⟨⟨[(0, .yld l), (1, .rptr (TTable.c t)), (8, .ro 10 (t.L.map TCand.c)), (9, .int .i64 (t.L.length : Int)), (10, .int .i64 ((i + 1 : Nat) : Int))], [], 0⟩, Conv.keep [] [] [0, 1, 8, 9, 10] rfl rfl (viewE_cons rfl rfl (viewE_cons rfl rfl (viewE_cons rfl rfl (viewE_cons rfl rfl (viewE_cons rfl rfl viewE_nil))))) rfl rfl,
        t.L.length - (i + 1), by omega, i + 1, hlt, rfl, ⟨_, e3, rfl⟩, rfl⟩
    | true =>
      have hk : (l0.map fun c => PVal.agg (TCand.c c))[li.length]? = some (.agg (TCand.c x)) := by
        rw [e4]
        simp
      refine IW.regG (pre := [⟨some 20, none, .mov, [.t 6]⟩, ⟨some 21, none, .mov, [.t 20]⟩, ⟨some 22, some (21, true), .mov, [.t 0]⟩, ⟨some 23, some (21, true), .load (some 10), [.t 5]⟩]) (ao := ⟨some 24, some (21, true), .callv, [.t 22, .t 23]⟩) (post := [⟨some 25, some (21, true), .unNot, [.t 24]⟩, ⟨some 26, none, .pick, [.t 21, .t 25, .c (.bool false)]⟩]) hY rfl rfl rfl ?_
      refine GX.m rfl ?_
      refine GX.m rfl ?_
      refine GX.m rfl ?_
      refine GX.q (.agg (TCand.c x)) ?_
      refine GX.done ⟨.agg (TCand.c x), [0, 1, 8, 9, 10, 21], [(0, .yld l), (1, .rptr (TTable.c t)), (8, .ro 10 (t.L.map TCand.c)), (9, .int .i64 (t.L.length : Int)), (10, .int .i64 (i : Int)), (21, .bool true)], rfl, rfl, rfl, hk, rfl, rfl, ?_⟩
      refine GX.q (.bool false) ?_
      refine GX.q (.bool false) ?_
      refine GX.done ?_
      show IW Try.prog 28 J _ _ _ _
      refine IW.cond (b := false) rfl (fun h => by cases h) (fun _ => ?_)
      refine IW.of (W.skip ?_)
      show IW Try.prog 28 J _ _ _ _
      refine IW.ofC (W.wk (WK.regx mixed ?_))
      refine GX.pure (v' := .int .i64 ((i + 1 : Nat) : Int)) rfl rfl rfl rfl (congrArg (PVal.int .i64) (wrap_up hlt hlen)) ?_
      refine GX.m rfl ?_
      refine GX.done (WK.nil ?_)
      exact ⟨⟨[(0, .yld l), (1, .rptr (TTable.c t)), (8, .ro 10 (t.L.map TCand.c)), (9, .int .i64 (t.L.length : Int)), (10, .int .i64 ((i + 1 : Nat) : Int))], [], 0⟩, Conv.keep [] [] [0, 1, 8, 9, 10] rfl rfl (viewE_cons rfl rfl (viewE_cons rfl rfl (viewE_cons rfl rfl (viewE_cons rfl rfl (viewE_cons rfl rfl viewE_nil))))) rfl rfl,
        t.L.length - (i + 1), by omega, i + 1, hlt, rfl, ⟨_, e3, by simp⟩, rfl⟩

/-! ### rib.All -/
/-- What a round does first; what it does. -/
def r36a : AC := .reg []
    [⟨some 4, none, .alloc [.int .u32 0, .int .i64 0, .int .i64 0, .int .i64 0, .int .i64 0, .int .i64 0, .int .u32 0, .bool false, .int .i64 0, .nils], []⟩,
     ⟨none, none, .store 10, [.t 4, .t 8]⟩]
def r36b : AC :=
  .block 1 (.seq (.reg []
    [⟨some 9, none, .load none, [.t 3]⟩,
     ⟨some 10, none, .lenL, [.t 9]⟩,
     ⟨some 11, none, .bin .sub .scal, [.t 10, .c (.int .i64 1)]⟩,
     ⟨some 5, none, .mov, [.t 11]⟩])
  (.block 2 (.seq (.reg [[], [0], [1], [2], [2], [3, 4, 2], [5, 2], [6, 2], [2], [8, 2], [7, 9, 2], [2, 10], [11, 2]]
    [⟨some 13, none, .mov, [.t 5]⟩,
     ⟨some 14, none, .bin .lss .scal, [.t 13, .c (.int .i64 0)]⟩,
     ⟨some 15, none, .mov, [.t 14]⟩,
     ⟨some 16, some (15, false), .load none, [.t 3]⟩,
     ⟨some 17, some (15, false), .mov, [.t 5]⟩,
     ⟨some 18, some (15, false), .idxA 10, [.t 16, .t 17]⟩,
     ⟨some 19, some (15, false), .fldA 0, [.t 18]⟩,
     ⟨some 20, some (15, false), .load (some 2), [.t 19]⟩,
     ⟨some 21, some (15, false), .fldA 0, [.t 4]⟩,
     ⟨some 22, some (15, false), .load (some 2), [.t 21]⟩,
     ⟨some 23, some (15, false), .bin .neq (.flat [.int .u32, .int .i64]), [.t 20, .t 22]⟩,
     ⟨some 24, none, .pick, [.t 15, .c (.bool true), .t 23]⟩,
     ⟨some 12, none, .mov, [.t 24]⟩])
  (.cond (.t 12)
  (.reg []
    [⟨some 25, none, .load none, [.t 3]⟩,
     ⟨some 26, none, .load (some 10), [.t 4]⟩,
     ⟨some 27, none, .bslice 10 28, [.t 26]⟩,
     ⟨some 28, none, .append 10 28 88, [.t 25, .t 27]⟩,
     ⟨none, none, .store 1, [.t 3, .t 28]⟩])
  (.seq (.reg [[], [], [], [1, 2], [3], [0, 4], [5, 5]]
    [⟨some 30, none, .load (some 10), [.t 4]⟩,
     ⟨some 31, none, .load none, [.t 3]⟩,
     ⟨some 32, none, .mov, [.t 5]⟩,
     ⟨some 33, none, .idxA 10, [.t 31, .t 32]⟩,
     ⟨some 34, none, .load (some 10), [.t 33]⟩,
     ⟨some 35, none, .call 16, [.t 30, .t 34]⟩,
     ⟨some 29, none, .mov, [.t 35]⟩])
  (.cond (.t 29)
  (.reg []
    [⟨some 36, none, .load none, [.t 3]⟩,
     ⟨some 37, none, .mov, [.t 5]⟩,
     ⟨some 38, none, .load (some 10), [.t 4]⟩,
     ⟨some 39, none, .idxA 10, [.t 36, .t 37]⟩,
     ⟨none, none, .store 10, [.t 39, .t 38]⟩])
  .skip))))))

theorem f36_shape : ∃ c0 c1 c2 ca cb c9, Try.f36.body = some (.seq c0 (.seq c1 (.seq (.seq c2 (.block 0 (.rangeFunc (.tmp 7) #[8] ca cb))) (.seq c9 .ret)))) ∧
    transC Try.prog c0 = some (.reg [] [⟨some 1, none, .box, [.t 0]⟩, ⟨some 2, none, .mov, [.c .nils]⟩]) ∧ transC Try.prog c1 = some (.reg [] [⟨some 3, none, .alloc [.nils], []⟩]) ∧
    transC Try.prog c2 = some (.reg [] [⟨some 6, none, .load (some 1), [.t 1]⟩, ⟨some 7, none, .call 53, [.t 6]⟩]) ∧ transC Try.prog ca = some r36a ∧ transC Try.prog cb = some r36b ∧
    transC Try.prog c9 = some (.reg [] [⟨some 40, none, .load none, [.t 3]⟩, ⟨some 2, none, .mov, [.t 40]⟩]) :=
  ⟨_, _, _, _, _, _, rfl, by kernel_rfl, by kernel_rfl, by kernel_rfl, by kernel_rfl, by kernel_rfl, by kernel_rfl⟩

/-- Between two rounds. -/
def I36 (R : List TCand) (liv : List TCand) (k : Nat) (h : List (AId × AObj)) (nx : Nat) : Prop :=
  (h = [(0, .box [.nils])] ∧ nx = 1 ∧ F36_rib_All_l1 [] (liv.drop k) = some R) ∨ ∃ row1 : List TCand, F36_rib_All_l1 row1 (liv.drop k) = some R ∧ h = [(0, .box [.own 1 10 0 row1.length]), (1, .row 10 28 (row1.map TCand.c))] ∧ nx = 2

theorem round36 (h16 : ∀ (a0 b1 : TCand) (R : Bool), F16_rib_Better a0 b1 = R → FnOk Try.prog 16 [.agg (TCand.c a0), .agg (TCand.c b1)] [] 0 (.bool R) [] 0) {R liv : List TCand} {k : Nat} {x52 : TCand} {env : List (Nat × PVal)} (row1 : List TCand) (hx : liv.drop k = x52 :: liv.drop (k + 1)) (hL_11 : F36_rib_All_l1 row1 (liv.drop k) = some R) :
    WK Try.prog 41 1 [r36a, r36b] (fun e s => ∃ s', Conv 1 s s' ∧ e = .normal ∧ I36 R liv (k + 1) s'.heap s'.next) ⟨[(8, .agg (TCand.c x52)), (3, .ptr 0 0), (7, .fn 58 [] env.unzip.2)], [(0, .box [.own 1 10 0 row1.length]), (1, .row 10 28 (row1.map TCand.c))], 2⟩ := by
  rw [hx, F36_rib_All_l1] at hL_11
  unfold r36a
  refine WK.regx mixed ?_
  refine GX.step (v' := .ptr 2 0) (heap' := [(0, .box [.own 1 10 0 row1.length]), (1, .row 10 28 (row1.map TCand.c)), (2, .box [.int .u32 0, .int .i64 0, .int .i64 0, .int .i64 0, .int .i64 0, .int .i64 0, .int .u32 0, .bool false, .int .i64 0, .nils])]) (next' := 3) rfl rfl rfl rfl rfl rfl rfl ?_
  refine GX.step0 (heap' := [(0, .box [.own 1 10 0 row1.length]), (1, .row 10 28 (row1.map TCand.c)), (2, .box (TCand.c x52))]) (next' := 3) rfl rfl rfl rfl rfl ?_
  refine GX.done ?_
  unfold r36b
  refine WK.blockK (fun _ hK14 => ?_)
  refine WK.sr mixed ?_
  refine GX.q (.own 1 10 0 row1.length) ?_
  refine GX.q (.int .i64 (row1.length : Int)) ?_
  refine GX.q (.int .i64 (IntKind.i64.wrap ((row1.length : Int) - 1))) ?_
  refine GX.m rfl ?_
  refine GX.done ?_
  refine WK.blockK (fun _ hK15 => ?_)
  refine WK.seq ?_
  refine WK.drawn mixed ?_
  refine RD.m rfl ?_
  refine RD.q (.bool (decide (IntKind.i64.wrap ((row1.length : Int) - 1) < 0))) ?_
  refine RD.m rfl ?_
  rcases bool_two (decide (IntKind.i64.wrap ((row1.length : Int) - 1) < 0)) with hb16 | hb16
  ·rw [hb16]; try simp only [hb16, bb] at hL_11
   refine RD.q (.own 1 10 0 row1.length) ?_
   refine RD.m rfl ?_
   generalize hx916 : getI row1 (IntKind.i64.wrap ((row1.length : Int) - 1)) = x916 at hL_11
   rcases x916 with _ | x916
   ·try dsimp only at hL_11
    cases hL_11
   try dsimp only at hL_11
   obtain ⟨hx9160, hx916j, hx916l, hx916⟩ := getI_some hx916
   refine RD.pure (v' := .eptr 1 10 ((IntKind.i64.wrap ((row1.length : Int) - 1)).toNat) 0) rfl rfl rfl (core_idxoT (c := TCand.c) (L := row1) (j := (IntKind.i64.wrap ((row1.length : Int) - 1)).toNat) rfl hx916j hx916l (by first | (exact Nat.le_refl _) | (simp))) rfl ?_
   refine RD.pure (v' := .eptr 1 10 ((IntKind.i64.wrap ((row1.length : Int) - 1)).toNat) 0) rfl rfl rfl (core_fldT (c := TCand.c) (L := row1) rfl (by first | (exact wrap_u64_nonneg _) | (exact wrap_u32_nonneg _) | (omega) | (((try simp only [decide_eq_true_eq, decide_eq_false_iff_not, Bool.not_eq_true, Bool.not_eq_false] at *); first | omega | (rw [wrap64_of (by omega) (by omega)]; omega) | (unfold min_ max_; (repeat' split) <;> first | omega | (rw [wrap64_of (by omega) (by omega)]; omega))))) rfl) rfl ?_
   refine RD.pure (v' := .agg [.int .u32 x916.P.A, .int .i64 x916.P.N]) rfl rfl rfl (core_loaT (c := TCand.c) (L := row1) (x := x916) rfl hx916 rfl) rfl ?_
   refine RD.q (.ptr 2 0) ?_
   refine RD.q (.agg [.int .u32 x52.P.A, .int .i64 x52.P.N]) ?_
   iterate 2 refine RD.q (.bool (!(decide (x916.P.A = x52.P.A) && (decide (x916.P.N = x52.P.N) && true)))) ?_
   refine RD.m rfl ?_
   refine RD.done rfl ?_
   rcases bool_two (decide (x916.P.A = x52.P.A) && (decide (x916.P.N = x52.P.N) && true)) with hb18 | hb18
   ·rw [hb18]; try simp only [hb18, bb] at hL_11
    refine WK.condT rfl ?_
    refine WK.regx mixed ?_
    refine GX.q (.own 1 10 0 row1.length) ?_
    refine GX.q (.agg (TCand.c x52)) ?_
    refine GX.step (v' := .own 3 10 0 (([x52] : List TCand)).length) (heap' := [(0, .box [.own 1 10 0 row1.length]), (1, .row 10 28 (row1.map TCand.c)), (2, .box (TCand.c x52)), (3, .row 10 28 (([x52] : List TCand).map TCand.c))]) (next' := 4) rfl rfl rfl rfl rfl rfl rfl ?_
    rcases bool_two (decide (row1.length < 1099511627776)) with hg19 | hg19
    ·simp only [hg19, bb] at hL_11
     try dsimp only at hL_11
     cases hL_11
    simp only [hg19, bb] at hL_11
    have hg19_ := of_decide_eq_true hg19
    refine GX.appT (c := TCand.c) (L := row1) (X := ([x52] : List TCand)) (heap' := [(0, .box [.own 1 10 0 row1.length]), (2, .box (TCand.c x52)), (3, .row 10 28 (([x52] : List TCand).map TCand.c)), (4, .row 10 28 ((row1 ++ ([x52] : List TCand)).map TCand.c))]) (next' := 5) rfl rfl rfl rfl (elems_own rfl) (by first | (omega) | (assumption) | (((try simp only [List.length_append, List.length_cons, List.length_nil, List.length_map, decide_eq_true_eq, decide_eq_false_iff_not] at *) <;> omega)) | (exact hp0 _ (List.mem_of_getElem? (by assumption))) | (exact hp1 _ (List.mem_of_getElem? (by assumption))) | (exact hp2 _ (List.mem_of_getElem? (by assumption))) | (exact hp3 _ (List.mem_of_getElem? (by assumption))) | (exact hp4 _ (List.mem_of_getElem? (by assumption))) | (exact hp5 _ (List.mem_of_getElem? (by assumption)))) (by first | (omega) | (assumption) | (((try simp only [List.length_append, List.length_cons, List.length_nil, List.length_map, decide_eq_true_eq, decide_eq_false_iff_not] at *) <;> omega)) | (exact hp0 _ (List.mem_of_getElem? (by assumption))) | (exact hp1 _ (List.mem_of_getElem? (by assumption))) | (exact hp2 _ (List.mem_of_getElem? (by assumption))) | (exact hp3 _ (List.mem_of_getElem? (by assumption))) | (exact hp4 _ (List.mem_of_getElem? (by assumption))) | (exact hp5 _ (List.mem_of_getElem? (by assumption)))) rfl rfl rfl rfl ?_
    refine GX.step0 (heap' := [(0, .box [.own 4 10 0 (row1 ++ ([x52] : List TCand)).length]), (2, .box (TCand.c x52)), (3, .row 10 28 (([x52] : List TCand).map TCand.c)), (4, .row 10 28 ((row1 ++ ([x52] : List TCand)).map TCand.c))]) (next' := 5) rfl rfl rfl rfl rfl ?_
    refine GX.done ?_
    refine WK.nil (QF.normal (hK15 _ ?_))
    refine WK.nil (QF.normal (hK14 _ ?_))
    refine WK.nil ?_
    exact ⟨⟨[], [(0, .box [.own 1 10 0 (row1 ++ ([x52] : List TCand)).length]), (1, .row 10 28 ((row1 ++ ([x52] : List TCand)).map TCand.c))], 2⟩, Conv.keep [0, 4] [] [] rfl rfl rfl rfl rfl, rfl, .inr ⟨(row1 ++ ([x52] : List TCand)), hL_11, rfl, rfl⟩⟩
   ·rw [hb18]; try simp only [hb18, bb] at hL_11
    refine WK.condF rfl ?_
    refine WK.seq ?_
    refine WK.drawn mixed ?_
    refine RD.q (.agg (TCand.c x52)) ?_
    refine RD.q (.own 1 10 0 row1.length) ?_
    refine RD.m rfl ?_
    refine RD.pure (v' := .eptr 1 10 ((IntKind.i64.wrap ((row1.length : Int) - 1)).toNat) 0) rfl rfl rfl (core_idxoT (c := TCand.c) (L := row1) (j := (IntKind.i64.wrap ((row1.length : Int) - 1)).toNat) rfl hx916j hx916l (by first | (exact Nat.le_refl _) | (simp))) rfl ?_
    refine RD.pure (v' := .agg (TCand.c x916)) rfl rfl rfl (core_loaT (c := TCand.c) (L := row1) (x := x916) rfl hx916 rfl) rfl ?_
    generalize hc35 : F16_rib_Better x52 x916 = c35 at hL_11
    try dsimp only at hL_11
    refine RD.callp (r := .bool c35) rfl rfl rfl (h16 x52 x916 _ hc35) rfl rfl ?_
    refine RD.m rfl ?_
    refine RD.done rfl ?_
    rcases bool_two (c35) with hb20 | hb20
    ·rw [hb20]; try simp only [hb20, bb] at hL_11
     refine WK.condF rfl ?_
     refine WK.skip ?_
     refine WK.nil (QF.normal (hK15 _ ?_))
     refine WK.nil (QF.normal (hK14 _ ?_))
     refine WK.nil ?_
     exact ⟨⟨[], [(0, .box [.own 1 10 0 row1.length]), (1, .row 10 28 (row1.map TCand.c))], 2⟩, Conv.keep [0, 1] [] [] rfl rfl rfl rfl rfl, rfl, .inr ⟨row1, hL_11, rfl, rfl⟩⟩
    ·rw [hb20]; try simp only [hb20, bb] at hL_11
     refine WK.condT rfl ?_
     refine WK.regx mixed ?_
     refine GX.q (.own 1 10 0 row1.length) ?_
     refine GX.m rfl ?_
     refine GX.q (.agg (TCand.c x52)) ?_
     refine GX.pure (v' := .eptr 1 10 ((IntKind.i64.wrap ((row1.length : Int) - 1)).toNat) 0) rfl rfl rfl (core_idxoT (c := TCand.c) (L := row1) (j := (IntKind.i64.wrap ((row1.length : Int) - 1)).toNat) rfl hx916j hx916l (by first | (exact Nat.le_refl _) | (simp))) rfl ?_
     refine GX.step0 (heap' := [(0, .box [.own 1 10 0 row1.length]), (1, .row 10 28 ((row1.set (IntKind.i64.wrap ((row1.length : Int) - 1)).toNat x52).map TCand.c)), (2, .box (TCand.c x52))]) (next' := 3) rfl rfl (core_stoT (c := TCand.c) (L := row1) (x := x916) (x' := x52) rfl hx916 rfl rfl rfl rfl rfl) rfl rfl ?_
     refine GX.done ?_
     refine WK.nil (QF.normal (hK15 _ ?_))
     refine WK.nil (QF.normal (hK14 _ ?_))
     refine WK.nil ?_
     exact ⟨⟨[], [(0, .box [.own 1 10 0 (row1.set (IntKind.i64.wrap ((row1.length : Int) - 1)).toNat x52).length]), (1, .row 10 28 ((row1.set (IntKind.i64.wrap ((row1.length : Int) - 1)).toNat x52).map TCand.c))], 2⟩, Conv.keep [0, 1] [] [] rfl rfl rfl (subH_cons rfl (viewO_box (viewGo_cons (viewP_own_len rfl (by simp)) viewGo_nil)) (subH_cons rfl rfl subH_nil)) rfl, rfl, .inr ⟨(row1.set (IntKind.i64.wrap ((row1.length : Int) - 1)).toNat x52), hL_11, rfl, rfl⟩⟩
  ·rw [hb16]; try simp only [hb16, bb] at hL_11
   iterate 8 refine RD.skip rfl rfl ?_
   refine RD.q (.bool true) ?_
   refine RD.m rfl ?_
   refine RD.done rfl ?_
   refine WK.condT rfl ?_
   refine WK.regx mixed ?_
   refine GX.q (.own 1 10 0 row1.length) ?_
   refine GX.q (.agg (TCand.c x52)) ?_
   refine GX.step (v' := .own 3 10 0 (([x52] : List TCand)).length) (heap' := [(0, .box [.own 1 10 0 row1.length]), (1, .row 10 28 (row1.map TCand.c)), (2, .box (TCand.c x52)), (3, .row 10 28 (([x52] : List TCand).map TCand.c))]) (next' := 4) rfl rfl rfl rfl rfl rfl rfl ?_
   rcases bool_two (decide (row1.length < 1099511627776)) with hg21 | hg21
   ·simp only [hg21, bb] at hL_11
    try dsimp only at hL_11
    cases hL_11
   simp only [hg21, bb] at hL_11
   have hg21_ := of_decide_eq_true hg21
   refine GX.appT (c := TCand.c) (L := row1) (X := ([x52] : List TCand)) (heap' := [(0, .box [.own 1 10 0 row1.length]), (2, .box (TCand.c x52)), (3, .row 10 28 (([x52] : List TCand).map TCand.c)), (4, .row 10 28 ((row1 ++ ([x52] : List TCand)).map TCand.c))]) (next' := 5) rfl rfl rfl rfl (elems_own rfl) (by first | (omega) | (assumption) | (((try simp only [List.length_append, List.length_cons, List.length_nil, List.length_map, decide_eq_true_eq, decide_eq_false_iff_not] at *) <;> omega)) | (exact hp0 _ (List.mem_of_getElem? (by assumption))) | (exact hp1 _ (List.mem_of_getElem? (by assumption))) | (exact hp2 _ (List.mem_of_getElem? (by assumption))) | (exact hp3 _ (List.mem_of_getElem? (by assumption))) | (exact hp4 _ (List.mem_of_getElem? (by assumption))) | (exact hp5 _ (List.mem_of_getElem? (by assumption)))) (by first | (omega) | (assumption) | (((try simp only [List.length_append, List.length_cons, List.length_nil, List.length_map, decide_eq_true_eq, decide_eq_false_iff_not] at *) <;> omega)) | (exact hp0 _ (List.mem_of_getElem? (by assumption))) | (exact hp1 _ (List.mem_of_getElem? (by assumption))) | (exact hp2 _ (List.mem_of_getElem? (by assumption))) | (exact hp3 _ (List.mem_of_getElem? (by assumption))) | (exact hp4 _ (List.mem_of_getElem? (by assumption))) | (exact hp5 _ (List.mem_of_getElem? (by assumption)))) rfl rfl rfl rfl ?_
   refine GX.step0 (heap' := [(0, .box [.own 4 10 0 (row1 ++ ([x52] : List TCand)).length]), (2, .box (TCand.c x52)), (3, .row 10 28 (([x52] : List TCand).map TCand.c)), (4, .row 10 28 ((row1 ++ ([x52] : List TCand)).map TCand.c))]) (next' := 5) rfl rfl rfl rfl rfl ?_
   refine GX.done ?_
   refine WK.nil (QF.normal (hK15 _ ?_))
   refine WK.nil (QF.normal (hK14 _ ?_))
   refine WK.nil ?_
   exact ⟨⟨[], [(0, .box [.own 1 10 0 (row1 ++ ([x52] : List TCand)).length]), (1, .row 10 28 ((row1 ++ ([x52] : List TCand)).map TCand.c))], 2⟩, Conv.keep [0, 4] [] [] rfl rfl rfl rfl rfl, rfl, .inr ⟨(row1 ++ ([x52] : List TCand)), hL_11, rfl, rfl⟩⟩

theorem f36_of (h19 : ∀ (t0 : TTable) (c1 : TCand) (R : TCand × Bool), F19_rib_Lives t0 c1 = some R → FnOk Try.prog 19 [.agg (TTable.c t0), .agg (TCand.c c1)] [] 0 (.tup [.agg (TCand.c R.1), .bool R.2]) [] 0)
    (h16 : ∀ (a0 b1 : TCand) (R : Bool), F16_rib_Better a0 b1 = R → FnOk Try.prog 16 [.agg (TCand.c a0), .agg (TCand.c b1)] [] 0 (.bool R) [] 0) (t : TTable) (R : List TCand) (hR : allO t = some R) : FnOk Try.prog 36 [.agg (TTable.c t)] [] 0 (.ro 10 (R.map TCand.c)) [] 0 := by
  unfold allO at hR
  cases hl0 : livesL t t.L with
  | none => rw [hl0] at hR; cases hR
  | some liv =>
    rw [hl0] at hR
    simp only at hR
    obtain ⟨c0, c1, c2, ca, cb, c9, hb, t0, t1, t2, ta, tb, t9⟩ := f36_shape
    refine FnOk.of_marks (fn := Try.f36) (ts := [.t 2]) Try.func36 (by kernel_rfl) hb (by kernel_rfl) (Nat.le_of_ble_eq_true (by kernel_rfl)) (Nat.le_refl 0) ?_
    intro m ok a w hS
    change Sim 41 [] (· < 0) m ok (St.e ⟨[(0, .agg (TTable.c t))], [], 0⟩) (St.h ⟨[(0, .agg (TTable.c t))], [], 0⟩) a w at hS
    have W0 : W Try.prog 41 0 (.reg [] [⟨some 1, none, .box, [.t 0]⟩, ⟨some 2, none, .mov, [.c .nils]⟩]) (fun e s => e = .normal ∧ s = ⟨[(2, .nils), (1, .ptr 0 0), (0, .agg (TTable.c t))], [(0, .box (TTable.c t))], 1⟩) ⟨[(0, .agg (TTable.c t))], [], 0⟩ := by
      refine W.wk (WK.regx mixed ?_)
      refine GX.step (v' := .ptr 0 0) (heap' := [(0, .box (TTable.c t))]) (next' := 1) rfl rfl rfl rfl rfl rfl rfl ?_
      refine GX.m rfl ?_
      exact GX.done (WK.nil ⟨rfl, rfl⟩)
    have W1 : W Try.prog 41 0 (.reg [] [⟨some 3, none, .alloc [.nils], []⟩]) (fun e s => e = .normal ∧ s = ⟨[(3, .ptr 1 0), (2, .nils), (1, .ptr 0 0), (0, .agg (TTable.c t))], [(0, .box (TTable.c t)), (1, .box [.nils])], 2⟩) ⟨[(2, .nils), (1, .ptr 0 0), (0, .agg (TTable.c t))], [(0, .box (TTable.c t))], 1⟩ := by
      refine W.wk (WK.regx mixed ?_)
      refine GX.step (v' := .ptr 1 0) (heap' := [(0, .box (TTable.c t)), (1, .box [.nils])]) (next' := 2) rfl rfl rfl rfl rfl rfl rfl ?_
      exact GX.done (WK.nil ⟨rfl, rfl⟩)
    have W2 : W Try.prog 41 0 (.reg [] [⟨some 6, none, .load (some 1), [.t 1]⟩, ⟨some 7, none, .call 53, [.t 6]⟩]) (fun e s => ∃ s', Conv 0 s s' ∧ e = .normal ∧ s' = ⟨[(3, .ptr 0 0), (7, .fn 58 [] [.rptr (TTable.c t)])], [(0, .box [.nils])], 1⟩)
        ⟨[(3, .ptr 1 0), (2, .nils), (1, .ptr 0 0), (0, .agg (TTable.c t))], [(0, .box (TTable.c t)), (1, .box [.nils])], 2⟩ := by
      refine W.wk (WK.regx mixed ?_)
      refine GX.q (.agg (TTable.c t)) ?_
      refine GX.callp (r := .fn 58 [] [.rptr (TTable.c t)]) rfl rfl rfl (f53_ok t) rfl rfl ?_
      refine GX.done (WK.nil ?_)
      exact ⟨_, Conv.keep [1] [] [3, 7] rfl rfl (viewE_cons rfl rfl (viewE_cons rfl rfl viewE_nil)) rfl rfl, rfl, rfl⟩
    have key : ∀ (h : List (AId × AObj)) (nx : Nat), I36 R liv liv.length h nx → W Try.prog 41 0 (.seq (.reg [] [⟨some 40, none, .load none, [.t 3]⟩, ⟨some 2, none, .mov, [.t 40]⟩]) .ret) (RetQ 0 [.t 2] (.ro 10 (R.map TCand.c)) [] 0) ⟨[(3, .ptr 0 0), (7, .fn 58 [] [.rptr (TTable.c t)])], h, nx⟩ := by
      have fin : ∀ row1 : List TCand, F36_rib_All_l1 row1 (liv.drop liv.length) = some R → WK Try.prog 41 0 [.seq (.reg [] [⟨some 40, none, .load none, [.t 3]⟩, ⟨some 2, none, .mov, [.t 40]⟩]) .ret] (RetQ 0 [.t 2] (.ro 10 (R.map TCand.c)) [] 0)
          ⟨[(3, .ptr 0 0), (7, .fn 58 [] [.rptr (TTable.c t)])], [(0, .box [.own 1 10 0 row1.length]), (1, .row 10 28 (row1.map TCand.c))], 2⟩ := by
        intro row1 hrow
        rw [List.drop_length, F36_rib_All_l1] at hrow
        injection hrow with hrow
        subst hrow
        refine WK.sr mixed ?_
        refine GX.q (.own 1 10 0 row1.length) ?_
        refine GX.m rfl ?_
        refine GX.done ?_
        refine WK.ret ?_
        exact RetQ.fr [1] (.inr rfl) rfl rfl (viewGo_cons (view_rowT rfl rfl) viewGo_nil) rfl
      rintro h nx (⟨rfl, rfl, hrow⟩ | ⟨row1, hrow, rfl, rfl⟩)
      · refine W.wk (WK.adoptB (id := 0) (j := 0) (sz := 10) (ty := 28) (heap' := [(0, .box [.own 1 10 0 (([] : List TCand)).length]), (1, .row 10 28 (([] : List TCand).map TCand.c))]) rfl rfl (by decide) (by simp) rfl ?_)
        exact fin [] hrow
      · exact W.wk (fin row1 hrow)
    refine wpIn_seq (wpIn_mono (W0 c0 t0 none [] m ok a w (Nat.le_refl _) hS) ?_)
    rintro e a1 w1 ⟨s1, m1, p1⟩
    obtain ⟨rfl, rfl⟩ := p1.q
    refine wpIn_seq (wpIn_mono (W1 c1 t1 none [] m1 ok a1 w1 (Nat.zero_le _) p1.sim) ?_)
    rintro e a2 w2 ⟨s2, m2, p2⟩
    obtain ⟨rfl, rfl⟩ := p2.q
    refine wpIn_seq (wpIn_seq (wpIn_mono (W.post W2 c2 t2 none [] m2 ok a2 w2 (Nat.zero_le _) p2.sim) ?_))
    rintro e a3 w3 ⟨s3, m3, p3⟩
    obtain ⟨rfl, rfl⟩ := p3.q
    refine wpIn_block ?_
    have hst3 : Step m w m3 w3 := (p1.step.trans p2.step).trans p3.step
    have hM3 : Mon (· < 0) m m3 := fun id h => absurd h (Nat.not_lt_zero _)
    refine range_wp (n := 41) (st := ⟨[(3, .ptr 0 0), (7, .fn 58 [] [.rptr (TTable.c t)])], [(0, .box [.nils])], 1⟩) (tg := 7) (p := 8) p3.sim rfl rfl (iter58 h19 t hl0) ta tb (by decide) (I36 R liv) (.inl ⟨rfl, rfl, by simpa using hR⟩) ?_ ?_ ?_
    · rintro k h nx (⟨_, rfl, _⟩ | ⟨_, _, _, rfl⟩)
      · exact Nat.le_refl _
      · show (1 : Nat) ≤ 2
        decide
    · intro k h nx x hI hx
      obtain ⟨x52, hx52, rfl⟩ : ∃ x52, liv[k]? = some x52 ∧ x = .agg (TCand.c x52) := by
        rw [List.getElem?_map] at hx
        obtain ⟨c, h1, h2⟩ := Option.map_eq_some_iff.1 hx
        exact ⟨c, h1, h2.symm⟩
      have hlt := (List.getElem?_eq_some_iff.1 hx52).1
      have hd : liv.drop k = x52 :: liv.drop (k + 1) := by
        rw [List.drop_eq_getElem_cons hlt]
        congr 1
        exact (List.getElem?_eq_some_iff.1 hx52).2
      have go : ∀ row1 : List TCand, F36_rib_All_l1 row1 (liv.drop k) = some R → WK Try.prog 41 1 [r36a, r36b] (fun e s => ∃ s', Conv 1 s s' ∧ e = .normal ∧ I36 R liv (k + 1) s'.heap s'.next) ⟨[(8, .agg (TCand.c x52)), (3, .ptr 0 0), (7, .fn 58 [] [.rptr (TTable.c t)])], [(0, .box [.own 1 10 0 row1.length]), (1, .row 10 28 (row1.map TCand.c))], 2⟩ :=
        fun row1 hrow => round36 h16 (env := [(0, .rptr (TTable.c t))]) row1 hd hrow
      have hWK : WK Try.prog 41 1 [r36a, r36b] (fun e s => ∃ s', Conv 1 s s' ∧ e = .normal ∧ I36 R liv (k + 1) s'.heap s'.next) ⟨[(8, .agg (TCand.c x52)), (3, .ptr 0 0), (7, .fn 58 [] [.rptr (TTable.c t)])], h, nx⟩ := by
        rcases hI with ⟨rfl, rfl, hrow⟩ | ⟨row1, hrow, rfl, rfl⟩
        · refine WK.adoptB (id := 0) (j := 0) (sz := 10) (ty := 28) (heap' := [(0, .box [.own 1 10 0 (([] : List TCand)).length]), (1, .row 10 28 (([] : List TCand).map TCand.c))]) rfl rfl (by decide) (by simp) rfl ?_
          exact go [] hrow
        · exact go row1 hrow
      refine W.mono hWK ?_
      intro e s hq
      cases e with
      | normal => exact W.post (W.wk hq)
      | exit id => obtain ⟨_, _, h, _⟩ := hq; cases h
      | goto id => obtain ⟨_, _, h, _⟩ := hq; cases h
      | ret => obtain ⟨_, _, h, _⟩ := hq; cases h
      | panic c => obtain ⟨_, _, h, _⟩ := hq; cases h
      | outgrown => obtain ⟨_, _, h, _⟩ := hq; cases h
    · intro h nx m4 w4 D hI4 hS4 hst4 hM4 hD hk hm
      rw [List.length_map] at hI4
      show (Code.seq c9 .ret).wpIn Fence.wide 0 Try.prog _ _ w4
      have ht : transC Try.prog (Code.seq c9 .ret) = some (.seq (.reg [] [⟨some 40, none, .load none, [.t 3]⟩, ⟨some 2, none, .mov, [.t 40]⟩]) .ret) := by
        simp only [transC, t9]
      refine wpIn_mono (key h nx hI4 _ ht none [markD D] m4 ok _ w4 (Nat.zero_le _) hS4) ?_
      rintro e a5 w5 ⟨s5, m5, p5⟩
      have hlt : D < w4.heap.size := (Array.getElem?_eq_some_iff.1 hk).1
      exact ⟨s5, m5, D, ⟨p5.q, p5.sim, (hst3.trans hst4).trans p5.step, fun id h => absurd h (Nat.not_lt_zero _), Nat.zero_le _⟩, by have := hst3.size; omega, (p5.step.keep D hlt hm).trans hk, p5.step.avoid hlt hm⟩

end Go.Proofs.Ytmfggjebbhdejaa.Abs
