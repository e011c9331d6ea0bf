/- Arguments, typed (printed by this work's own program rows.py). -/
import Derived.Test.YtlemcljcmfphcaaA23
import Derived.Test.YtlemcljcmfphcaaEn
import Derived.KernelRfl
set_option linter.unusedVariables false
set_option maxRecDepth 10000
namespace Go.Proofs.Ytlemcljcmfphcaa.Abs
open Go

def TBorder.ok (x : TBorder) : Prop := InK .i64 x.From ∧ InK .i64 x.To

def TPrefix.ok (x : TPrefix) : Prop := InK .u32 x.A ∧ InK .i64 x.N

def TAct.ok (x : TAct) : Prop := InK .i64 x.Kind ∧ TBorder.ok x.B ∧ TPrefix.ok x.P

theorem of22 {n : Nat} {cs : List PVal} (h : Typed Try.prog (n + 2) 22 cs) : ∃ x : List Int, cs = [.ro 1 (x.map c_u32)] ∧ ∀ y ∈ x, InK .u32 y := by
  obtain ⟨es, rfl, h2⟩ := typed_slice (n := n + 1) (sz := 1) Try.underlying22 (by kernel_rfl) h
  obtain ⟨l, rfl, hl⟩ := list_of (c := c_u32) (ok := (fun y => InK .u32 y)) (es := es) (fun x hx => by obtain ⟨i, rfl, w⟩ := typed_int Try.underlying27 (h2 x hx); exact ⟨i, rfl, w⟩)
  exact ⟨l, rfl, hl⟩

theorem of26 {n : Nat} {cs : List PVal} (h : Typed Try.prog (n + 2) 26 cs) : ∃ x : TBorder, cs = TBorder.c x ∧ x.ok := by
  obtain ⟨a0, b0, rfl, h0, a1, b1, rfl, h1, a2, b2, rfl, h2, rfl⟩ := typed_struct (n := n + 1) Try.underlying26 h
  obtain ⟨i0, rfl, w0⟩ := typed_int Try.underlying3 h0
  obtain ⟨i1, rfl, w1⟩ := typed_int Try.underlying3 h1
  obtain ⟨i2, rfl⟩ := typed_bool Try.underlying4 h2
  exact ⟨⟨i0, i1, i2⟩, rfl, w0, w1⟩

theorem of29 {n : Nat} {cs : List PVal} (h : Typed Try.prog (n + 2) 29 cs) : ∃ x : TPrefix, cs = TPrefix.c x ∧ x.ok := by
  obtain ⟨a0, b0, rfl, h0, a1, b1, rfl, h1, rfl⟩ := typed_struct (n := n + 1) Try.underlying29 h
  obtain ⟨i0, rfl, w0⟩ := typed_int Try.underlying27 h0
  obtain ⟨i1, rfl, w1⟩ := typed_int Try.underlying3 h1
  exact ⟨⟨i0, i1⟩, rfl, w0, w1⟩

theorem of31 {n : Nat} {cs : List PVal} (h : Typed Try.prog (n + 3) 31 cs) : ∃ x : TAct, cs = TAct.c x ∧ x.ok := by
  obtain ⟨a0, b0, rfl, h0, a1, b1, rfl, h1, a2, b2, rfl, h2, rfl⟩ := typed_struct (n := n + 2) Try.underlying31 h
  obtain ⟨i0, rfl, w0⟩ := typed_int Try.underlying3 h0
  obtain ⟨i1, rfl, w1⟩ := of26 h1
  obtain ⟨i2, rfl, w2⟩ := of29 h2
  exact ⟨⟨i0, i1, i2⟩, rfl, w0, w1, w2⟩

theorem of23 {n : Nat} {cs : List PVal} (h : Typed Try.prog (n + 4) 23 cs) : ∃ x : List TAct, cs = [.ro 6 (x.map TAct.c)] ∧ ∀ y ∈ x, TAct.ok y := by
  obtain ⟨es, rfl, h2⟩ := typed_slice (n := n + 3) (sz := 6) Try.underlying23 (by kernel_rfl) h
  obtain ⟨l, rfl, hl⟩ := list_of (c := TAct.c) (ok := (fun y => TAct.ok y)) (es := es) (fun x hx => of31 (h2 x hx))
  exact ⟨l, rfl, hl⟩

theorem of77 {n : Nat} {cs : List PVal} (h : Typed Try.prog (n + 3) 77 cs) : ∃ x : List TBorder, cs = [.ro 3 (x.map TBorder.c)] ∧ ∀ y ∈ x, TBorder.ok y := by
  obtain ⟨es, rfl, h2⟩ := typed_slice (n := n + 2) (sz := 3) Try.underlying77 (by kernel_rfl) h
  obtain ⟨l, rfl, hl⟩ := list_of (c := TBorder.c) (ok := (fun y => TBorder.ok y)) (es := es) (fun x hx => of26 (h2 x hx))
  exact ⟨l, rfl, hl⟩

end Go.Proofs.Ytlemcljcmfphcaa.Abs
