/- Arguments, typed (printed by this work's own program rows.py). -/
import Derived.Test.YtpcpclbdajebjaaA23
import Derived.Test.YtpcpclbdajebjaaEn
import Derived.KernelRfl
set_option linter.unusedVariables false
set_option maxRecDepth 10000
namespace Go.Proofs.Ytpcpclbdajebjaa.Abs
open Go

def TEntry.ok (x : TEntry) : Prop := InK .i64 x.Life ∧ InK .u64 x.ID ∧ InK .u32 x.Seq ∧ InK .i64 x.Sum

def TThing.ok (x : TThing) : Prop := InK .i64 x.Kind ∧ (∀ y ∈ x.B, InK .u8 y)

def TLsp.ok (x : TLsp) : Prop := InK .i64 x.Level ∧ InK .i64 x.Life ∧ InK .u64 x.ID ∧ InK .u32 x.Seq ∧ InK .i64 x.Sum ∧ InK .i64 x.Bits ∧ (∀ y ∈ x.Things, TThing.ok y)

def TBase.ok (x : TBase) : Prop := InK .i64 x.Level ∧ InK .i64 x.Max ∧ (∀ y ∈ x.L, TLsp.ok y)

def TS.ok (x : TS) : Prop := InK .i64 x.e0 ∧ InK .i64 x.e1

def TAct.ok (x : TAct) : Prop := InK .i64 x.By ∧ TLsp.ok x.X

def TList.ok (x : TList) : Prop := InK .i64 x.Level ∧ InK .u64 x.Source ∧ InK .u64 x.Low ∧ InK .u64 x.High ∧ (∀ y ∈ x.L, TEntry.ok y)

theorem of25 {n : Nat} {cs : List PVal} (h : Typed Try.prog (n + 2) 25 cs) : ∃ x : TEntry, cs = TEntry.c x ∧ x.ok := by
  obtain ⟨a0, b0, rfl, h0, a1, b1, rfl, h1, a2, b2, rfl, h2, a3, b3, rfl, h3, rfl⟩ := typed_struct (n := n + 1) Try.underlying25 h
  obtain ⟨i0, rfl, w0⟩ := typed_int Try.underlying3 h0
  obtain ⟨i1, rfl, w1⟩ := typed_int Try.underlying22 h1
  obtain ⟨i2, rfl, w2⟩ := typed_int Try.underlying23 h2
  obtain ⟨i3, rfl, w3⟩ := typed_int Try.underlying3 h3
  exact ⟨⟨i0, i1, i2, i3⟩, rfl, w0, w1, w2, w3⟩

theorem of95 {n : Nat} {cs : List PVal} (h : Typed Try.prog (n + 2) 95 cs) : ∃ x : List Int, cs = [.ro 1 (x.map c_u8)] ∧ ∀ y ∈ x, InK .u8 y := by
  obtain ⟨es, rfl, h2⟩ := typed_slice (n := n + 1) (sz := 1) Try.underlying95 (by kernel_rfl) h
  obtain ⟨l, rfl, hl⟩ := list_of (c := c_u8) (ok := (fun y => InK .u8 y)) (es := es) (fun x hx => by obtain ⟨i, rfl, w⟩ := typed_int Try.underlying5 (h2 x hx); exact ⟨i, rfl, w⟩)
  exact ⟨l, rfl, hl⟩

theorem of97 {n : Nat} {cs : List PVal} (h : Typed Try.prog (n + 3) 97 cs) : ∃ x : TThing, cs = TThing.c x ∧ x.ok := by
  obtain ⟨a0, b0, rfl, h0, a1, b1, rfl, h1, rfl⟩ := typed_struct (n := n + 2) Try.underlying97 h
  obtain ⟨i0, rfl, w0⟩ := typed_int Try.underlying3 h0
  obtain ⟨i1, rfl, w1⟩ := of95 h1
  exact ⟨⟨i0, i1⟩, rfl, w0, w1⟩

theorem of32 {n : Nat} {cs : List PVal} (h : Typed Try.prog (n + 4) 32 cs) : ∃ x : List TThing, cs = [.ro 2 (x.map TThing.c)] ∧ ∀ y ∈ x, TThing.ok y := by
  obtain ⟨es, rfl, h2⟩ := typed_slice (n := n + 3) (sz := 2) Try.underlying32 (by kernel_rfl) h
  obtain ⟨l, rfl, hl⟩ := list_of (c := TThing.c) (ok := (fun y => TThing.ok y)) (es := es) (fun x hx => of97 (h2 x hx))
  exact ⟨l, rfl, hl⟩

theorem of34 {n : Nat} {cs : List PVal} (h : Typed Try.prog (n + 5) 34 cs) : ∃ x : TLsp, cs = TLsp.c x ∧ x.ok := by
  obtain ⟨a0, b0, rfl, h0, a1, b1, rfl, h1, a2, b2, rfl, h2, a3, b3, rfl, h3, a4, b4, rfl, h4, a5, b5, rfl, h5, a6, b6, rfl, h6, rfl⟩ := typed_struct (n := n + 4) Try.underlying34 h
  obtain ⟨i0, rfl, w0⟩ := typed_int Try.underlying3 h0
  obtain ⟨i1, rfl, w1⟩ := typed_int Try.underlying3 h1
  obtain ⟨i2, rfl, w2⟩ := typed_int Try.underlying22 h2
  obtain ⟨i3, rfl, w3⟩ := typed_int Try.underlying23 h3
  obtain ⟨i4, rfl, w4⟩ := typed_int Try.underlying3 h4
  obtain ⟨i5, rfl, w5⟩ := typed_int Try.underlying3 h5
  obtain ⟨i6, rfl, w6⟩ := of32 h6
  exact ⟨⟨i0, i1, i2, i3, i4, i5, i6⟩, rfl, w0, w1, w2, w3, w4, w5, w6⟩

theorem of36 {n : Nat} {cs : List PVal} (h : Typed Try.prog (n + 6) 36 cs) : ∃ x : List TLsp, cs = [.ro 7 (x.map TLsp.c)] ∧ ∀ y ∈ x, TLsp.ok y := by
  obtain ⟨es, rfl, h2⟩ := typed_slice (n := n + 5) (sz := 7) Try.underlying36 (by kernel_rfl) h
  obtain ⟨l, rfl, hl⟩ := list_of (c := TLsp.c) (ok := (fun y => TLsp.ok y)) (es := es) (fun x hx => of34 (h2 x hx))
  exact ⟨l, rfl, hl⟩

theorem of38 {n : Nat} {cs : List PVal} (h : Typed Try.prog (n + 7) 38 cs) : ∃ x : TBase, cs = TBase.c x ∧ x.ok := by
  obtain ⟨a0, b0, rfl, h0, a1, b1, rfl, h1, a2, b2, rfl, h2, a3, b3, rfl, h3, rfl⟩ := typed_struct (n := n + 6) Try.underlying38 h
  obtain ⟨i0, rfl, w0⟩ := typed_int Try.underlying3 h0
  obtain ⟨i1, rfl, w1⟩ := typed_int Try.underlying3 h1
  obtain ⟨i2, rfl, w2⟩ := of36 h2
  obtain ⟨i3, rfl⟩ := typed_bool Try.underlying4 h3
  exact ⟨⟨i0, i1, i2, i3⟩, rfl, w0, w1, w2⟩

theorem of68 {n : Nat} {cs : List PVal} (h : Typed Try.prog (n + 6) 68 cs) : ∃ x : TAct, cs = TAct.c x ∧ x.ok := by
  obtain ⟨a0, b0, rfl, h0, a1, b1, rfl, h1, a2, b2, rfl, h2, rfl⟩ := typed_struct (n := n + 5) Try.underlying68 h
  obtain ⟨i0, rfl⟩ := typed_bool Try.underlying4 h0
  obtain ⟨i1, rfl, w1⟩ := typed_int Try.underlying3 h1
  obtain ⟨i2, rfl, w2⟩ := of34 h2
  exact ⟨⟨i0, i1, i2⟩, rfl, w1, w2⟩

theorem of62 {n : Nat} {cs : List PVal} (h : Typed Try.prog (n + 7) 62 cs) : ∃ x : List TAct, cs = [.ro 9 (x.map TAct.c)] ∧ ∀ y ∈ x, TAct.ok y := by
  obtain ⟨es, rfl, h2⟩ := typed_slice (n := n + 6) (sz := 9) Try.underlying62 (by kernel_rfl) h
  obtain ⟨l, rfl, hl⟩ := list_of (c := TAct.c) (ok := (fun y => TAct.ok y)) (es := es) (fun x hx => of68 (h2 x hx))
  exact ⟨l, rfl, hl⟩

theorem of43 {n : Nat} {cs : List PVal} (h : Typed Try.prog (n + 3) 43 cs) : ∃ x : List TEntry, cs = [.ro 4 (x.map TEntry.c)] ∧ ∀ y ∈ x, TEntry.ok y := by
  obtain ⟨es, rfl, h2⟩ := typed_slice (n := n + 2) (sz := 4) Try.underlying43 (by kernel_rfl) h
  obtain ⟨l, rfl, hl⟩ := list_of (c := TEntry.c) (ok := (fun y => TEntry.ok y)) (es := es) (fun x hx => of25 (h2 x hx))
  exact ⟨l, rfl, hl⟩

theorem of46 {n : Nat} {cs : List PVal} (h : Typed Try.prog (n + 4) 46 cs) : ∃ x : TList, cs = TList.c x ∧ x.ok := by
  obtain ⟨a0, b0, rfl, h0, a1, b1, rfl, h1, a2, b2, rfl, h2, a3, b3, rfl, h3, a4, b4, rfl, h4, a5, b5, rfl, h5, rfl⟩ := typed_struct (n := n + 3) Try.underlying46 h
  obtain ⟨i0, rfl, w0⟩ := typed_int Try.underlying3 h0
  obtain ⟨i1, rfl⟩ := typed_bool Try.underlying4 h1
  obtain ⟨i2, rfl, w2⟩ := typed_int Try.underlying22 h2
  obtain ⟨i3, rfl, w3⟩ := typed_int Try.underlying22 h3
  obtain ⟨i4, rfl, w4⟩ := typed_int Try.underlying22 h4
  obtain ⟨i5, rfl, w5⟩ := of43 h5
  exact ⟨⟨i0, i1, i2, i3, i4, i5⟩, rfl, w0, w2, w3, w4, w5⟩

end Go.Proofs.Ytpcpclbdajebjaa.Abs
