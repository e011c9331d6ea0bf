/- slices.Grow of nil, slices.Concat of two rows: what they do, whatever the elements. Generic over any program. -/
import Derived.Test.YtbmdpedhobkeeaaS1
import Derived.Test.YtbmdpedhobkeeaaA30
set_option linter.unusedVariables false
set_option linter.unusedSimpArgs false
namespace Go.Proofs.Ytbmdpedhobkeeaa.Abs
open Go

def growAC (sz : Nat) (ty : TypeId) (by_ : Nat) (zs : List PVal) (st : TypeId) (msg : PVal) : AC :=
  .seq (.reg []
    [⟨some 4, none, .mov, [.c .nils]⟩])
  (.seq (.seq (.reg []
    [⟨some 5, none, .mov, [.t 1]⟩,
     ⟨some 6, none, .bin .lss .scal, [.t 5, .c (.int .i64 0)]⟩])
  (.cond (.t 6)
  (.reg []
    [⟨some 7, none, .mkif st, [.c msg]⟩,
     ⟨none, none, .bad, []⟩])
  .skip))
  (.seq (.seq (.reg []
    [⟨some 8, none, .mov, [.t 1]⟩,
     ⟨some 9, none, .mov, [.t 0]⟩,
     ⟨some 10, none, .capL, [.t 9]⟩,
     ⟨some 11, none, .mov, [.t 0]⟩,
     ⟨some 12, none, .lenL, [.t 11]⟩,
     ⟨some 13, none, .bin .sub .scal, [.t 10, .t 12]⟩,
     ⟨some 14, none, .bin .sub .scal, [.t 8, .t 13]⟩,
     ⟨some 1, none, .mov, [.t 14]⟩])
  (.seq (.reg []
    [⟨some 15, none, .mov, [.t 1]⟩,
     ⟨some 16, none, .bin .gtr .scal, [.t 15, .c (.int .i64 0)]⟩])
  (.cond (.t 16)
  (.reg []
    [⟨some 17, none, .mov, [.t 0]⟩,
     ⟨some 18, none, .mov, [.t 0]⟩,
     ⟨some 19, none, .capL, [.t 18]⟩,
     ⟨some 20, none, .slice sz false true, [.t 17, .t 19]⟩,
     ⟨some 21, none, .mov, [.t 1]⟩,
     ⟨some 22, none, .appendZ sz ty by_ zs, [.t 20, .t 21]⟩,
     ⟨some 23, none, .mov, [.t 0]⟩,
     ⟨some 24, none, .lenL, [.t 23]⟩,
     ⟨some 25, none, .slice sz false true, [.t 22, .t 24]⟩,
     ⟨some 0, none, .mov, [.t 25]⟩])
  .skip)))
  (.seq (.reg []
    [⟨some 26, none, .mov, [.t 0]⟩,
     ⟨some 4, none, .mov, [.t 26]⟩])
  .ret)))

/-- slices.Concat. -/
def concatAC1 (st : TypeId) (msg : PVal) : AC :=
  .seq (.reg []
    [⟨some 12, none, .bin .lss .scal, [.t 11, .t 10]⟩])
  (.seq (.cond (.t 12)
  .skip
  (.exit 0))
  (.seq (.block 1 (.seq (.reg []
    [⟨some 13, none, .idxA 1, [.t 9, .t 11]⟩,
     ⟨some 14, none, .load none, [.t 13]⟩,
     ⟨some 5, none, .mov, [.t 14]⟩])
  (.seq (.reg []
    [⟨some 15, none, .mov, [.t 3]⟩,
     ⟨some 16, none, .mov, [.t 5]⟩,
     ⟨some 17, none, .lenL, [.t 16]⟩,
     ⟨some 18, none, .bin .add .scal, [.t 15, .t 17]⟩,
     ⟨some 3, none, .mov, [.t 18]⟩])
  (.seq (.reg []
    [⟨some 19, none, .mov, [.t 3]⟩,
     ⟨some 20, none, .bin .lss .scal, [.t 19, .c (.int .i64 0)]⟩])
  (.cond (.t 20)
  (.reg []
    [⟨some 21, none, .mkif st, [.c msg]⟩,
     ⟨none, none, .bad, []⟩])
  .skip)))))
  (.reg []
    [⟨some 22, none, .bin .add .scal, [.t 11, .c (.int .i64 1)]⟩,
     ⟨some 11, none, .mov, [.t 22]⟩])))
def concatAC2 (sz : Nat) (ty : TypeId) (by_ : Nat) : AC :=
  .seq (.reg []
    [⟨some 28, none, .bin .lss .scal, [.t 27, .t 26]⟩])
  (.seq (.cond (.t 28)
  .skip
  (.exit 2))
  (.seq (.block 3 (.seq (.reg []
    [⟨some 29, none, .idxA 1, [.t 25, .t 27]⟩,
     ⟨some 30, none, .load none, [.t 29]⟩,
     ⟨some 8, none, .mov, [.t 30]⟩])
  (.reg []
    [⟨some 31, none, .mov, [.t 6]⟩,
     ⟨some 32, none, .mov, [.t 8]⟩,
     ⟨some 33, none, .append sz ty by_, [.t 31, .t 32]⟩,
     ⟨some 6, none, .mov, [.t 33]⟩])))
  (.reg []
    [⟨some 34, none, .bin .add .scal, [.t 27, .c (.int .i64 1)]⟩,
     ⟨some 27, none, .mov, [.t 34]⟩])))
def concatAC (sz : Nat) (ty : TypeId) (by_ : Nat) (st : TypeId) (msg : PVal) (fg : FuncId) : AC :=
  .seq (.reg []
    [⟨some 2, none, .mov, [.c .nils]⟩])
  (.seq (.reg []
    [⟨some 3, none, .mov, [.c (.int .i64 0)]⟩])
  (.seq (.seq (.reg []
    [⟨some 9, none, .mov, [.t 0]⟩,
     ⟨some 10, none, .lenL, [.t 9]⟩,
     ⟨some 11, none, .mov, [.c (.int .i64 0)]⟩])
  (.block 0 (.loop (concatAC1 st msg))))
  (.seq (.reg []
    [⟨some 23, none, .mov, [.t 3]⟩,
     ⟨some 24, none, .call fg, [.c .nils, .t 23]⟩,
     ⟨some 6, none, .mov, [.t 24]⟩])
  (.seq (.seq (.reg []
    [⟨some 25, none, .mov, [.t 0]⟩,
     ⟨some 26, none, .lenL, [.t 25]⟩,
     ⟨some 27, none, .mov, [.c (.int .i64 0)]⟩])
  (.block 2 (.loop (concatAC2 sz ty by_))))
  (.seq (.reg []
    [⟨some 35, none, .mov, [.t 6]⟩,
     ⟨some 2, none, .mov, [.t 35]⟩])
  .ret)))))

section
variable {P : Program} {f : FuncId} {sz ty by_ : Nat} {zs : List PVal} {st : TypeId} {msg : PVal}

theorem core_appZnil {h : Heap} {nx : Nat} {k : IntKind} {n : Nat} (h0 : 0 < n) (h1 : n * by_ ≤ 140737488355328) (h2 : n ≤ maxLen) : core (.appendZ sz ty by_ zs) [.nils, .int k n] h nx = some { v := .own nx sz 0 n, wh := [(nx, some (.row sz ty (List.replicate n zs)))], nw := [nx] } := by
  simp only [core, Int.toNat_natCast]
  rw [if_pos ⟨by omega, h1, h2⟩]

theorem core_sliceR0 {h : Heap} {nx id m : Nat} {es : List (List PVal)} (ho : h id = some (.row sz ty es)) : core (.slice sz false true) [.own id sz 0 m, .int .i64 0] h nx = some { v := .own id sz 0 0, rh := [id] } := by
  simp [core, ho, sbnd]

/-- Grown from nil: a row of zeros of which none counts yet. -/
theorem grow_ok (mixed : P.follows .mixedOrders = true) (hi : fnInfo P f = some (27, [.t 4], growAC sz ty by_ zs st msg)) (n : Nat) (h0 : 0 < n) (h1 : n * by_ ≤ 140737488355328) (h2 : n ≤ maxLen) :
    FnOk P f [.nils, .int .i64 n] [] 0 (.own 0 sz 0 0) [(0, .row sz ty (List.replicate n zs))] 1 := by
  refine FnOk.wk hi rfl rfl ?_
  unfold growAC
  simp only [paramE, Nat.reduceAdd]
  have hd0 : decide ((n : Int) < 0) = false := decide_eq_false (by omega)
  have hw : IntKind.i64.wrap ((n : Int) - IntKind.i64.wrap (((0 : Nat) : Int) - 0)) = (n : Int) := by
    simp only [maxLen] at h2
    have : IntKind.i64.wrap (((0 : Nat) : Int) - 0) = 0 := by decide
    rw [this, wrap64_of] <;> omega
  have hd1 : decide ((0 : Int) < (n : Int)) = true := decide_eq_true (by omega)
  refine WK.seq (WK.regx mixed ?_)
  repeat (first | refine GX.m rfl ?_ | refine GX.pure rfl rfl rfl rfl rfl ?_)
  refine GX.done ?_
  refine WK.seq (WK.seq (WK.regx mixed ?_))
  repeat (first | refine GX.m rfl ?_ | refine GX.pure rfl rfl rfl rfl rfl ?_)
  refine GX.done ?_
  simp only [hd0]
  refine WK.condF rfl ?_
  refine WK.skip ?_
  refine WK.seq (WK.seq (WK.regx mixed ?_))
  repeat (first | refine GX.m rfl ?_ | refine GX.pure rfl rfl rfl rfl rfl ?_)
  refine GX.done ?_
  refine WK.seq (WK.regx mixed ?_)
  repeat (first | refine GX.m rfl ?_ | refine GX.pure rfl rfl rfl rfl rfl ?_)
  refine GX.done ?_
  simp only [hw, hd1]
  refine WK.condT rfl ?_
  refine WK.regx mixed ?_
  repeat (first | refine GX.m rfl ?_ | refine GX.pure rfl rfl rfl rfl rfl ?_)
  refine GX.step rfl rfl rfl (core_appZnil h0 h1 h2) rfl rfl rfl ?_
  repeat (first | refine GX.m rfl ?_ | refine GX.pure rfl rfl rfl rfl rfl ?_)
  refine GX.pure rfl rfl rfl (core_sliceR0 rfl) rfl ?_
  repeat (first | refine GX.m rfl ?_ | refine GX.pure rfl rfl rfl rfl rfl ?_)
  refine GX.done ?_
  refine WK.seq (WK.regx mixed ?_)
  repeat (first | refine GX.m rfl ?_ | refine GX.pure rfl rfl rfl rfl rfl ?_)
  refine GX.done ?_
  exact ret_row (id := 0) rfl rfl (by decide)

/-- Grown from nil by nothing: nil. -/
theorem grow0_ok (mixed : P.follows .mixedOrders = true) (hi : fnInfo P f = some (27, [.t 4], growAC sz ty by_ zs st msg)) :
    FnOk P f [.nils, .int .i64 0] [] 0 .nils [] 0 := by
  refine FnOk.wk hi rfl rfl ?_
  unfold growAC
  simp only [paramE, Nat.reduceAdd]
  refine WK.seq (WK.regx mixed ?_)
  repeat (first | refine GX.m rfl ?_ | refine GX.pure rfl rfl rfl rfl rfl ?_)
  refine GX.done ?_
  refine WK.seq (WK.seq (WK.regx mixed ?_))
  repeat (first | refine GX.m rfl ?_ | refine GX.pure rfl rfl rfl rfl rfl ?_)
  refine GX.done ?_
  refine WK.condF rfl ?_
  refine WK.skip ?_
  refine WK.seq (WK.seq (WK.regx mixed ?_))
  repeat (first | refine GX.m rfl ?_ | refine GX.pure rfl rfl rfl rfl rfl ?_)
  refine GX.done ?_
  refine WK.seq (WK.regx mixed ?_)
  repeat (first | refine GX.m rfl ?_ | refine GX.pure rfl rfl rfl rfl rfl ?_)
  refine GX.done ?_
  refine WK.condF rfl ?_
  refine WK.skip ?_
  refine WK.seq (WK.regx mixed ?_)
  repeat (first | refine GX.m rfl ?_ | refine GX.pure rfl rfl rfl rfl rfl ?_)
  refine GX.done ?_
  exact WK.ret (RetQ.fr [] (.inr rfl) rfl rfl rfl rfl)
theorem core_ro_elem {h : Heap} {nx i : Nat} {ik : IntKind} {es : List (List PVal)} {e : List PVal} (he : es[i]? = some e) : core (.idxA 1) [.ro 1 es, .int ik (i : Int)] h nx = some { v := .rptr e } := by
  have hlt := (List.getElem?_eq_some_iff.1 he).1
  simp only [core]
  rw [if_pos ⟨trivial, by omega, by omega⟩]
  simp [List.getD_eq_getElem?_getD, he]

/-- Two rows, one behind the other: a row that is only looked at from there on. -/
theorem concat_okF {α : Type} {c : α → List PVal} {fg : FuncId} {st2 : TypeId} {msg2 : PVal} (mixed : P.follows .mixedOrders = true) (hi : fnInfo P f = some (36, [.t 2], concatAC sz ty by_ st msg fg)) (hig : fnInfo P fg = some (27, [.t 4], growAC sz ty by_ zs st2 msg2)) (X Y : List α) (hsz : 0 < sz)
    (hb : (X.length + Y.length) * by_ ≤ 140737488355328) (hm : X.length + Y.length ≤ 9223372036854775807) :
    FnOk P f [.ro 1 [[.ro sz (X.map c)], [.ro sz (Y.map c)]]] [] 0 (.ro sz ((X ++ Y).map c)) [] 0 := by
  refine FnOk.wk hi rfl rfl ?_
  unfold concatAC
  simp only [paramE, Nat.reduceAdd]
  refine WK.seq (WK.regx mixed ?_)
  repeat (first | refine GX.m rfl ?_ | refine GX.pure rfl rfl rfl rfl rfl ?_)
  refine GX.done ?_
  refine WK.seq (WK.regx mixed ?_)
  repeat (first | refine GX.m rfl ?_ | refine GX.pure rfl rfl rfl rfl rfl ?_)
  refine GX.done ?_
  refine WK.seq (WK.seq (WK.regx mixed ?_))
  repeat (first | refine GX.m rfl ?_ | refine GX.pure rfl rfl rfl rfl rfl ?_)
  refine GX.done ?_
  have w1 : IntKind.i64.wrap ((0 : Int) + (X.length : Int)) = (X.length : Int) := by rw [wrap64_of] <;> omega
  have w2 : IntKind.i64.wrap ((X.length : Int) + (Y.length : Int)) = ((X.length + Y.length : Nat) : Int) := by rw [wrap64_of] <;> omega
  have d1 : decide ((X.length : Int) < 0) = false := decide_eq_false (by omega)
  have d2 : decide (((X.length + Y.length : Nat) : Int) < 0) = false := decide_eq_false (by omega)
  have lenX : core .lenL [.ro sz (X.map c)] = fun h nx => some { v := .int .i64 (X.length : Int) } := by funext h nx; simp [core]
  have lenY : core .lenL [.ro sz (Y.map c)] = fun h nx => some { v := .int .i64 (Y.length : Int) } := by funext h nx; simp [core]
  refine WK.unroll 3 (WU.go ?_)
  unfold concatAC1
  refine WK.seq (WK.regx mixed ?_)
  repeat (first | refine GX.m rfl ?_ | refine GX.pure rfl rfl rfl rfl rfl ?_)
  refine GX.done ?_
  refine WK.seq (WK.condT rfl (WK.skip ?_))
  refine WK.seq (WK.block (WK.seq (WK.regx mixed ?_)))
  refine GX.pure rfl rfl rfl (core_ro_elem (i := 0) (e := [.ro sz (X.map c)]) rfl) rfl ?_
  repeat (first | refine GX.m rfl ?_ | refine GX.pure rfl rfl rfl rfl rfl ?_)
  refine GX.done ?_
  refine WK.seq (WK.regx mixed ?_)
  iterate 2 refine GX.m rfl ?_
  refine GX.pure rfl rfl rfl (congrFun (congrFun lenX _) _) rfl ?_
  refine GX.pure rfl rfl rfl rfl (congrArg (PVal.int .i64) w1) ?_
  repeat (first | refine GX.m rfl ?_ | refine GX.pure rfl rfl rfl rfl rfl ?_)
  refine GX.done ?_
  refine WK.seq (WK.regx mixed ?_)
  repeat (first | refine GX.m rfl ?_ | refine GX.pure rfl rfl rfl rfl rfl ?_)
  refine GX.done ?_
  simp only [d1]
  refine WK.condF rfl (WK.skip (WK.nil (QF.normal ?_)))
  refine WK.regx mixed ?_
  repeat (first | refine GX.m rfl ?_ | refine GX.pure rfl rfl rfl rfl rfl ?_)
  refine GX.done (WK.nil (QF.normal (WU.go ?_)))
  refine WK.seq (WK.regx mixed ?_)
  repeat (first | refine GX.m rfl ?_ | refine GX.pure rfl rfl rfl rfl rfl ?_)
  refine GX.done ?_
  refine WK.seq (WK.condT rfl (WK.skip ?_))
  refine WK.seq (WK.block (WK.seq (WK.regx mixed ?_)))
  refine GX.pure rfl rfl rfl (core_ro_elem (i := 1) (e := [.ro sz (Y.map c)]) rfl) rfl ?_
  repeat (first | refine GX.m rfl ?_ | refine GX.pure rfl rfl rfl rfl rfl ?_)
  refine GX.done ?_
  refine WK.seq (WK.regx mixed ?_)
  iterate 2 refine GX.m rfl ?_
  refine GX.pure rfl rfl rfl (congrFun (congrFun lenY _) _) rfl ?_
  refine GX.pure rfl rfl rfl rfl (congrArg (PVal.int .i64) w2) ?_
  repeat (first | refine GX.m rfl ?_ | refine GX.pure rfl rfl rfl rfl rfl ?_)
  refine GX.done ?_
  refine WK.seq (WK.regx mixed ?_)
  repeat (first | refine GX.m rfl ?_ | refine GX.pure rfl rfl rfl rfl rfl ?_)
  refine GX.done ?_
  simp only [d2]
  refine WK.condF rfl (WK.skip (WK.nil (QF.normal ?_)))
  refine WK.regx mixed ?_
  repeat (first | refine GX.m rfl ?_ | refine GX.pure rfl rfl rfl rfl rfl ?_)
  refine GX.done (WK.nil (QF.normal (WU.go ?_)))
  refine WK.seq (WK.regx mixed ?_)
  repeat (first | refine GX.m rfl ?_ | refine GX.pure rfl rfl rfl rfl rfl ?_)
  refine GX.done ?_
  refine WK.seq (WK.condF rfl (WK.exit (QF.exit ?_)))
  -- what is to come: from a row of nothing on
  have tail : ∀ A : List (List PVal), A = [[.ro sz (X.map c)], [.ro sz (Y.map c)]] → WK P 36 0 [.seq (.seq (.reg []
    [⟨some 25, none, .mov, [.t 0]⟩,
     ⟨some 26, none, .lenL, [.t 25]⟩,
     ⟨some 27, none, .mov, [.c (.int .i64 0)]⟩])
  (.block 2 (.loop (concatAC2 sz ty by_))))
  (.seq (.reg []
    [⟨some 35, none, .mov, [.t 6]⟩,
     ⟨some 2, none, .mov, [.t 35]⟩])
  .ret)] (RetQ 0 [.t 2] (.ro sz ((X ++ Y).map c)) [] 0) ⟨[(0, .ro 1 A), (6, .own 0 sz 0 (([] : List α).map c).length)], [(0, .row sz ty (([] : List α).map c))], 1⟩ := by
    intro A hA
    subst hA
    refine WK.seq (WK.seq (WK.regx mixed ?_))
    repeat (first | refine GX.m rfl ?_ | refine GX.pure rfl rfl rfl rfl rfl ?_)
    refine GX.done ?_
    refine WK.unroll 3 (WU.go ?_)
    unfold concatAC2
    refine WK.seq (WK.regx mixed ?_)
    repeat (first | refine GX.m rfl ?_ | refine GX.pure rfl rfl rfl rfl rfl ?_)
    refine GX.done ?_
    refine WK.seq (WK.condT rfl (WK.skip ?_))
    refine WK.seq (WK.block (WK.seq (WK.regx mixed ?_)))
    refine GX.pure rfl rfl rfl (core_ro_elem (i := 0) (e := [.ro sz (X.map c)]) rfl) rfl ?_
    repeat (first | refine GX.m rfl ?_ | refine GX.pure rfl rfl rfl rfl rfl ?_)
    refine GX.done ?_
    refine WK.regx mixed ?_
    iterate 2 refine GX.m rfl ?_
    refine GX.appT (c := c) (L := []) (X := X) rfl rfl rfl rfl elems_ro (by simp only [List.length_nil, Nat.zero_add]; exact Nat.le_trans (Nat.mul_le_mul_right _ (Nat.le_add_right _ _)) hb) (by simp only [List.length_nil]; omega) rfl rfl rfl rfl ?_
    repeat (first | refine GX.m rfl ?_ | refine GX.pure rfl rfl rfl rfl rfl ?_)
    refine GX.done (WK.nil (QF.normal ?_))
    refine WK.regx mixed ?_
    repeat (first | refine GX.m rfl ?_ | refine GX.pure rfl rfl rfl rfl rfl ?_)
    refine GX.done (WK.nil (QF.normal (WU.go ?_)))
    refine WK.seq (WK.regx mixed ?_)
    repeat (first | refine GX.m rfl ?_ | refine GX.pure rfl rfl rfl rfl rfl ?_)
    refine GX.done ?_
    refine WK.seq (WK.condT rfl (WK.skip ?_))
    refine WK.seq (WK.block (WK.seq (WK.regx mixed ?_)))
    refine GX.pure rfl rfl rfl (core_ro_elem (i := 1) (e := [.ro sz (Y.map c)]) rfl) rfl ?_
    repeat (first | refine GX.m rfl ?_ | refine GX.pure rfl rfl rfl rfl rfl ?_)
    refine GX.done ?_
    refine WK.regx mixed ?_
    iterate 2 refine GX.m rfl ?_
    refine GX.appT (c := c) (L := [] ++ X) (X := Y) rfl rfl rfl rfl elems_ro (by simpa using hb) (by simpa using hm) rfl rfl rfl rfl ?_
    repeat (first | refine GX.m rfl ?_ | refine GX.pure rfl rfl rfl rfl rfl ?_)
    refine GX.done (WK.nil (QF.normal ?_))
    refine WK.regx mixed ?_
    repeat (first | refine GX.m rfl ?_ | refine GX.pure rfl rfl rfl rfl rfl ?_)
    refine GX.done (WK.nil (QF.normal (WU.go ?_)))
    refine WK.seq (WK.regx mixed ?_)
    repeat (first | refine GX.m rfl ?_ | refine GX.pure rfl rfl rfl rfl rfl ?_)
    refine GX.done ?_
    refine WK.seq (WK.condF rfl (WK.exit (QF.exit ?_)))
    refine WK.seq (WK.regx mixed ?_)
    repeat (first | refine GX.m rfl ?_ | refine GX.pure rfl rfl rfl rfl rfl ?_)
    refine GX.done ?_
    exact WK.ret (RetQ.fr [2] (.inr rfl) rfl rfl (viewGo_cons (view_rowT rfl rfl) viewGo_nil) rfl)
  refine WK.seq (WK.regx mixed ?_)
  refine GX.m rfl ?_
  by_cases h0 : X.length + Y.length = 0
  · rw [h0]
    refine GX.callp (r := .nils) rfl rfl rfl (grow0_ok mixed hig) rfl rfl ?_
    repeat (first | refine GX.m rfl ?_ | refine GX.pure rfl rfl rfl rfl rfl ?_)
    refine GX.done ?_
    refine WK.adopt (t := 6) (sz := sz) (ty := ty) rfl hsz (by simp) rfl ?_
    exact WK.conv (Conv.keep [0] [] [0, 6] rfl rfl (viewE_cons rfl rfl (viewE_cons rfl rfl viewE_nil)) rfl rfl) (tail _ rfl) (by simp)
  · refine GX.callx [] [] rfl rfl rfl rfl rfl rfl (grow_ok mixed hig (X.length + Y.length) (by omega) hb hm) (.inl rfl) rfl rfl rfl ?_
    repeat (first | refine GX.m rfl ?_ | refine GX.pure rfl rfl rfl rfl rfl ?_)
    refine GX.done ?_
    refine WK.trunc (id := 0) 0 rfl (List.take_zero) (by simp) rfl ?_
    exact WK.conv (Conv.keep [0] [] [0, 6] rfl rfl (viewE_cons rfl rfl (viewE_cons rfl rfl viewE_nil)) rfl rfl) (tail _ rfl) (by simp)

end
end Go.Proofs.Ytbmdpedhobkeeaa.Abs
