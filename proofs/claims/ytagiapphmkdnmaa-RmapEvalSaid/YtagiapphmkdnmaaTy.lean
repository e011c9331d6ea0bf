/- Arguments, typed (printed by this work's own program rows.py). -/
import Derived.Test.YtagiapphmkdnmaaA23
import Derived.Test.YtagiapphmkdnmaaEn
import Derived.KernelRfl
set_option linter.unusedVariables false
set_option maxRecDepth 10000
namespace Go.Proofs.Ytagiapphmkdnmaa.Abs
open Go

def TPrefix.ok (x : TPrefix) : Prop := InK .u32 x.A ∧ InK .i64 x.N

def TRule.ok (x : TRule) : Prop := InK .i64 x.Seq ∧ TPrefix.ok x.P ∧ InK .i64 x.Ge ∧ InK .i64 x.Le

def TClause.ok (x : TClause) : Prop := InK .i64 x.Seq ∧ (∀ y ∈ x.Listf, TRule.ok y) ∧ InK .i64 x.MKind ∧ InK .i64 x.MLow ∧ InK .i64 x.MHigh ∧ (∀ y ∈ x.MTags, InK .u32 y) ∧ InK .i64 x.SCost ∧ InK .i64 x.SPlus ∧ InK .i64 x.SKind ∧ InK .u32 x.STag

def TRoute.ok (x : TRoute) : Prop := TPrefix.ok x.P ∧ InK .i64 x.Kind ∧ InK .i64 x.Cost ∧ InK .u32 x.Tag

theorem of25 {n : Nat} {cs : List PVal} (h : Typed Try.prog (n + 2) 25 cs) : ∃ x : TPrefix, cs = TPrefix.c x ∧ x.ok := by
  obtain ⟨a0, b0, rfl, h0, a1, b1, rfl, h1, rfl⟩ := typed_struct (n := n + 1) Try.underlying25 h
  obtain ⟨i0, rfl, w0⟩ := typed_int Try.underlying23 h0
  obtain ⟨i1, rfl, w1⟩ := typed_int Try.underlying3 h1
  exact ⟨⟨i0, i1⟩, rfl, w0, w1⟩

theorem of76 {n : Nat} {cs : List PVal} (h : Typed Try.prog (n + 3) 76 cs) : ∃ x : TRule, cs = TRule.c x ∧ x.ok := by
  obtain ⟨a0, b0, rfl, h0, a1, b1, rfl, h1, a2, b2, rfl, h2, a3, b3, rfl, h3, a4, b4, rfl, h4, rfl⟩ := typed_struct (n := n + 2) Try.underlying76 h
  obtain ⟨i0, rfl, w0⟩ := typed_int Try.underlying3 h0
  obtain ⟨i1, rfl⟩ := typed_bool Try.underlying4 h1
  obtain ⟨i2, rfl, w2⟩ := of25 h2
  obtain ⟨i3, rfl, w3⟩ := typed_int Try.underlying3 h3
  obtain ⟨i4, rfl, w4⟩ := typed_int Try.underlying3 h4
  exact ⟨⟨i0, i1, i2, i3, i4⟩, rfl, w0, w2, w3, w4⟩

theorem of36 {n : Nat} {cs : List PVal} (h : Typed Try.prog (n + 4) 36 cs) : ∃ x : List TRule, cs = [.ro 6 (x.map TRule.c)] ∧ ∀ y ∈ x, TRule.ok y := by
  obtain ⟨es, rfl, h2⟩ := typed_slice (n := n + 3) (sz := 6) Try.underlying36 (by kernel_rfl) h
  obtain ⟨l, rfl, hl⟩ := list_of (c := TRule.c) (ok := (fun y => TRule.ok y)) (es := es) (fun x hx => of76 (h2 x hx))
  exact ⟨l, rfl, hl⟩

theorem of37 {n : Nat} {cs : List PVal} (h : Typed Try.prog (n + 2) 37 cs) : ∃ x : List Int, cs = [.ro 1 (x.map c_u32)] ∧ ∀ y ∈ x, InK .u32 y := by
  obtain ⟨es, rfl, h2⟩ := typed_slice (n := n + 1) (sz := 1) Try.underlying37 (by kernel_rfl) h
  obtain ⟨l, rfl, hl⟩ := list_of (c := c_u32) (ok := (fun y => InK .u32 y)) (es := es) (fun x hx => by obtain ⟨i, rfl, w⟩ := typed_int Try.underlying23 (h2 x hx); exact ⟨i, rfl, w⟩)
  exact ⟨l, rfl, hl⟩

theorem of39 {n : Nat} {cs : List PVal} (h : Typed Try.prog (n + 5) 39 cs) : ∃ x : TClause, cs = TClause.c x ∧ x.ok := by
  obtain ⟨a0, b0, rfl, h0, a1, b1, rfl, h1, a2, b2, rfl, h2, a3, b3, rfl, h3, a4, b4, rfl, h4, a5, b5, rfl, h5, a6, b6, rfl, h6, a7, b7, rfl, h7, a8, b8, rfl, h8, a9, b9, rfl, h9, a10, b10, rfl, h10, a11, b11, rfl, h11, rfl⟩ := typed_struct (n := n + 4) Try.underlying39 h
  obtain ⟨i0, rfl, w0⟩ := typed_int Try.underlying3 h0
  obtain ⟨i1, rfl⟩ := typed_bool Try.underlying4 h1
  obtain ⟨i2, rfl, w2⟩ := of36 h2
  obtain ⟨i3, rfl, w3⟩ := typed_int Try.underlying3 h3
  obtain ⟨i4, rfl, w4⟩ := typed_int Try.underlying3 h4
  obtain ⟨i5, rfl, w5⟩ := typed_int Try.underlying3 h5
  obtain ⟨i6, rfl, w6⟩ := of37 h6
  obtain ⟨i7, rfl, w7⟩ := typed_int Try.underlying3 h7
  obtain ⟨i8, rfl, w8⟩ := typed_int Try.underlying3 h8
  obtain ⟨i9, rfl, w9⟩ := typed_int Try.underlying3 h9
  obtain ⟨i10, rfl⟩ := typed_bool Try.underlying4 h10
  obtain ⟨i11, rfl, w11⟩ := typed_int Try.underlying23 h11
  exact ⟨⟨i0, i1, i2, i3, i4, i5, i6, i7, i8, i9, i10, i11⟩, rfl, w0, w2, w3, w4, w5, w6, w7, w8, w9, w11⟩

theorem of22 {n : Nat} {cs : List PVal} (h : Typed Try.prog (n + 6) 22 cs) : ∃ x : List TClause, cs = [.ro 12 (x.map TClause.c)] ∧ ∀ y ∈ x, TClause.ok y := by
  obtain ⟨es, rfl, h2⟩ := typed_slice (n := n + 5) (sz := 12) Try.underlying22 (by kernel_rfl) h
  obtain ⟨l, rfl, hl⟩ := list_of (c := TClause.c) (ok := (fun y => TClause.ok y)) (es := es) (fun x hx => of39 (h2 x hx))
  exact ⟨l, rfl, hl⟩

theorem of27 {n : Nat} {cs : List PVal} (h : Typed Try.prog (n + 3) 27 cs) : ∃ x : TRoute, cs = TRoute.c x ∧ x.ok := by
  obtain ⟨a0, b0, rfl, h0, a1, b1, rfl, h1, a2, b2, rfl, h2, a3, b3, rfl, h3, rfl⟩ := typed_struct (n := n + 2) Try.underlying27 h
  obtain ⟨i0, rfl, w0⟩ := of25 h0
  obtain ⟨i1, rfl, w1⟩ := typed_int Try.underlying3 h1
  obtain ⟨i2, rfl, w2⟩ := typed_int Try.underlying3 h2
  obtain ⟨i3, rfl, w3⟩ := typed_int Try.underlying23 h3
  exact ⟨⟨i0, i1, i2, i3⟩, rfl, w0, w1, w2, w3⟩

theorem of61 {n : Nat} {cs : List PVal} (h : Typed Try.prog (n + 4) 61 cs) : ∃ x : List TRoute, cs = [.ro 5 (x.map TRoute.c)] ∧ ∀ y ∈ x, TRoute.ok y := by
  obtain ⟨es, rfl, h2⟩ := typed_slice (n := n + 3) (sz := 5) Try.underlying61 (by kernel_rfl) h
  obtain ⟨l, rfl, hl⟩ := list_of (c := TRoute.c) (ok := (fun y => TRoute.ok y)) (es := es) (fun x hx => of27 (h2 x hx))
  exact ⟨l, rfl, hl⟩

end Go.Proofs.Ytagiapphmkdnmaa.Abs
