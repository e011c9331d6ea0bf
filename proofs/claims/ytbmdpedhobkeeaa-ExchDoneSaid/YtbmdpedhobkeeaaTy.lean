/- Arguments, typed (printed by this work's own program rows.py). -/
import Derived.Test.YtbmdpedhobkeeaaA23
import Derived.Test.YtbmdpedhobkeeaaEn
import Derived.KernelRfl
set_option linter.unusedVariables false
set_option maxRecDepth 10000
namespace Go.Proofs.Ytbmdpedhobkeeaa.Abs
open Go

def THeader.ok (x : THeader) : Prop := InK .i64 x.Age ∧ InK .i64 x.Options ∧ InK .i64 x.Typef ∧ InK .u32 x.ID ∧ InK .u32 x.Adv ∧ InK .u32 x.Seq ∧ InK .i64 x.Sum ∧ InK .i64 x.Long

def TStart.ok (x : TStart) : Prop := InK .u32 x.Own ∧ InK .u32 x.Peer ∧ InK .u32 x.Seq ∧ (∀ y ∈ x.Heads, THeader.ok y)

theorem of67 {n : Nat} {cs : List PVal} (h : Typed Try.prog (n + 2) 67 cs) : ∃ x : THeader, cs = THeader.c x ∧ x.ok := by
  obtain ⟨a0, b0, rfl, h0, a1, b1, rfl, h1, a2, b2, rfl, h2, a3, b3, rfl, h3, a4, b4, rfl, h4, a5, b5, rfl, h5, a6, b6, rfl, h6, a7, b7, rfl, h7, rfl⟩ := typed_struct (n := n + 1) Try.underlying67 h
  obtain ⟨i0, rfl, w0⟩ := typed_int Try.underlying3 h0
  obtain ⟨i1, rfl, w1⟩ := typed_int Try.underlying3 h1
  obtain ⟨i2, rfl, w2⟩ := typed_int Try.underlying3 h2
  obtain ⟨i3, rfl, w3⟩ := typed_int Try.underlying22 h3
  obtain ⟨i4, rfl, w4⟩ := typed_int Try.underlying22 h4
  obtain ⟨i5, rfl, w5⟩ := typed_int Try.underlying22 h5
  obtain ⟨i6, rfl, w6⟩ := typed_int Try.underlying3 h6
  obtain ⟨i7, rfl, w7⟩ := typed_int Try.underlying3 h7
  exact ⟨⟨i0, i1, i2, i3, i4, i5, i6, i7⟩, rfl, w0, w1, w2, w3, w4, w5, w6, w7⟩

theorem of23 {n : Nat} {cs : List PVal} (h : Typed Try.prog (n + 3) 23 cs) : ∃ x : List THeader, cs = [.ro 8 (x.map THeader.c)] ∧ ∀ y ∈ x, THeader.ok y := by
  obtain ⟨es, rfl, h2⟩ := typed_slice (n := n + 2) (sz := 8) Try.underlying23 (by kernel_rfl) h
  obtain ⟨l, rfl, hl⟩ := list_of (c := THeader.c) (ok := (fun y => THeader.ok y)) (es := es) (fun x hx => of67 (h2 x hx))
  exact ⟨l, rfl, hl⟩

theorem of25 {n : Nat} {cs : List PVal} (h : Typed Try.prog (n + 4) 25 cs) : ∃ x : TStart, cs = TStart.c x ∧ x.ok := by
  obtain ⟨a0, b0, rfl, h0, a1, b1, rfl, h1, a2, b2, rfl, h2, a3, b3, rfl, h3, rfl⟩ := typed_struct (n := n + 3) Try.underlying25 h
  obtain ⟨i0, rfl, w0⟩ := typed_int Try.underlying22 h0
  obtain ⟨i1, rfl, w1⟩ := typed_int Try.underlying22 h1
  obtain ⟨i2, rfl, w2⟩ := typed_int Try.underlying22 h2
  obtain ⟨i3, rfl, w3⟩ := of23 h3
  exact ⟨⟨i0, i1, i2, i3⟩, rfl, w0, w1, w2, w3⟩

theorem of53 {n : Nat} {cs : List PVal} (h : Typed Try.prog (n + 2) 53 cs) : ∃ x : List Int, cs = [.ro 1 (x.map c_i64)] ∧ ∀ y ∈ x, InK .i64 y := by
  obtain ⟨es, rfl, h2⟩ := typed_slice (n := n + 1) (sz := 1) Try.underlying53 (by kernel_rfl) h
  obtain ⟨l, rfl, hl⟩ := list_of (c := c_i64) (ok := (fun y => InK .i64 y)) (es := es) (fun x hx => by obtain ⟨i, rfl, w⟩ := typed_int Try.underlying3 (h2 x hx); exact ⟨i, rfl, w⟩)
  exact ⟨l, rfl, hl⟩

end Go.Proofs.Ytbmdpedhobkeeaa.Abs
