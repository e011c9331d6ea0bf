/- Arguments, typed (printed by this work's own program rows.py). -/
import Derived.Test.YtbmdpedhobkeeaaA31
import Derived.Test.YtbmdpedhobkeeaaEn
import Derived.KernelRfl
set_option linter.unusedVariables false
set_option maxRecDepth 10000
namespace Go.Proofs.Ytbmdpedhobkeeaa.Abs
open Go

def THeader.ok (x : THeader) : Prop := InK .i64 x.Age ∧ InK .i64 x.Options ∧ InK .i64 x.Typef ∧ InK .u32 x.ID ∧ InK .u32 x.Adv ∧ InK .u32 x.Seq ∧ InK .i64 x.Sum ∧ InK .i64 x.Long

def TAd.ok (x : TAd) : Prop := THeader.ok x.H ∧ ((∀ y ∈ x.B, InK .u8 y) ∧ x.B.length * 1 ≤ 140737488351232)

def TStore.ok (x : TStore) : Prop := InK .i64 x.Max ∧ ((∀ y ∈ x.L, TAd.ok y) ∧ x.L.length * 80 ≤ 140737488351232)

theorem of67 {n : Nat} {cs : List PVal} (h : TypedS Try.prog (n + 2) 67 cs) : ∃ x : THeader, cs = THeader.c x ∧ x.ok := by
  obtain ⟨a0, b0, rfl, h0, a1, b1, rfl, h1, a2, b2, rfl, h2, a3, b3, rfl, h3, a4, b4, rfl, h4, a5, b5, rfl, h5, a6, b6, rfl, h6, a7, b7, rfl, h7, rfl⟩ := typedS_struct (n := n + 1) Try.underlying67 h
  obtain ⟨i0, rfl, w0⟩ := typedS_int Try.underlying3 h0
  obtain ⟨i1, rfl, w1⟩ := typedS_int Try.underlying3 h1
  obtain ⟨i2, rfl, w2⟩ := typedS_int Try.underlying3 h2
  obtain ⟨i3, rfl, w3⟩ := typedS_int Try.underlying22 h3
  obtain ⟨i4, rfl, w4⟩ := typedS_int Try.underlying22 h4
  obtain ⟨i5, rfl, w5⟩ := typedS_int Try.underlying22 h5
  obtain ⟨i6, rfl, w6⟩ := typedS_int Try.underlying3 h6
  obtain ⟨i7, rfl, w7⟩ := typedS_int Try.underlying3 h7
  exact ⟨⟨i0, i1, i2, i3, i4, i5, i6, i7⟩, rfl, w0, w1, w2, w3, w4, w5, w6, w7⟩

theorem of89 {n : Nat} {cs : List PVal} (h : TypedS Try.prog (n + 2) 89 cs) : ∃ x : List Int, cs = [.ro 1 (x.map c_u8)] ∧ (∀ y ∈ x, InK .u8 y) ∧ x.length * 1 ≤ 140737488351232 := by
  obtain ⟨es, rfl, hz, h2⟩ := typedS_slice (n := n + 1) (sz := 1) (by_ := 1) Try.underlying89 (by kernel_rfl) (by kernel_rfl) h
  obtain ⟨l, rfl, hl⟩ := list_of (c := c_u8) (ok := (fun y => InK .u8 y)) (es := es) (fun x hx => by obtain ⟨i, rfl, w⟩ := typedS_int Try.underlying5 (h2 x hx); exact ⟨i, rfl, w⟩)
  have hz2 : l.length * 1 ≤ 140737488351232 := by rw [List.length_map] at hz; exact hz
  exact ⟨l, rfl, hl, hz2⟩

theorem of91 {n : Nat} {cs : List PVal} (h : TypedS Try.prog (n + 3) 91 cs) : ∃ x : TAd, cs = TAd.c x ∧ x.ok := by
  obtain ⟨a0, b0, rfl, h0, a1, b1, rfl, h1, rfl⟩ := typedS_struct (n := n + 2) Try.underlying91 h
  obtain ⟨i0, rfl, w0⟩ := of67 h0
  obtain ⟨i1, rfl, w1⟩ := of89 h1
  exact ⟨⟨i0, i1⟩, rfl, w0, w1⟩

theorem of61 {n : Nat} {cs : List PVal} (h : TypedS Try.prog (n + 4) 61 cs) : ∃ x : List TAd, cs = [.ro 9 (x.map TAd.c)] ∧ (∀ y ∈ x, TAd.ok y) ∧ x.length * 80 ≤ 140737488351232 := by
  obtain ⟨es, rfl, hz, h2⟩ := typedS_slice (n := n + 3) (sz := 9) (by_ := 80) Try.underlying61 (by kernel_rfl) (by kernel_rfl) h
  obtain ⟨l, rfl, hl⟩ := list_of (c := TAd.c) (ok := (fun y => TAd.ok y)) (es := es) (fun x hx => of91 (h2 x hx))
  have hz2 : l.length * 80 ≤ 140737488351232 := by rw [List.length_map] at hz; exact hz
  exact ⟨l, rfl, hl, hz2⟩

theorem of63 {n : Nat} {cs : List PVal} (h : TypedS Try.prog (n + 5) 63 cs) : ∃ x : TStore, cs = TStore.c x ∧ x.ok := by
  obtain ⟨a0, b0, rfl, h0, a1, b1, rfl, h1, a2, b2, rfl, h2, rfl⟩ := typedS_struct (n := n + 4) Try.underlying63 h
  obtain ⟨i0, rfl, w0⟩ := typedS_int Try.underlying3 h0
  obtain ⟨i1, rfl, w1⟩ := of61 h1
  obtain ⟨i2, rfl⟩ := typedS_bool Try.underlying4 h2
  exact ⟨⟨i0, i1, i2⟩, rfl, w0, w1⟩

theorem of23 {n : Nat} {cs : List PVal} (h : TypedS Try.prog (n + 3) 23 cs) : ∃ x : List THeader, cs = [.ro 8 (x.map THeader.c)] ∧ (∀ y ∈ x, THeader.ok y) ∧ x.length * 56 ≤ 140737488351232 := by
  obtain ⟨es, rfl, hz, h2⟩ := typedS_slice (n := n + 2) (sz := 8) (by_ := 56) Try.underlying23 (by kernel_rfl) (by kernel_rfl) h
  obtain ⟨l, rfl, hl⟩ := list_of (c := THeader.c) (ok := (fun y => THeader.ok y)) (es := es) (fun x hx => of67 (h2 x hx))
  have hz2 : l.length * 56 ≤ 140737488351232 := by rw [List.length_map] at hz; exact hz
  exact ⟨l, rfl, hl, hz2⟩

end Go.Proofs.Ytbmdpedhobkeeaa.Abs
