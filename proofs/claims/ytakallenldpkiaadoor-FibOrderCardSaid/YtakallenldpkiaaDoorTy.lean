/- Arguments, typed (printed by this work's own program rows.py). -/
import Derived.Test.YtakallenldpkiaaDoorA23
import Derived.Test.YtakallenldpkiaaDoorEn
import Derived.KernelRfl
set_option linter.unusedVariables false
set_option maxRecDepth 10000
namespace Go.Proofs.YtakallenldpkiaaDoor.Abs
open Go
def TPrefix.ok (x : TPrefix) : Prop := InK .u32 x.A ∧ InK .i64 x.N
def THop.ok (x : THop) : Prop := InK .i64 x.Iface ∧ InK .u32 x.Gate
def TCand.ok (x : TCand) : Prop := TPrefix.ok x.P ∧ InK .i64 x.Proto ∧ InK .i64 x.Inst ∧ InK .i64 x.Dist ∧ InK .i64 x.Metric ∧ InK .u32 x.Tag ∧ InK .i64 x.From ∧ (∀ y ∈ x.Hops, THop.ok y)
theorem of28 {n : Nat} {cs : List PVal} (h : Typed Tryd.prog (n + 2) 28 cs) : ∃ x : TPrefix, cs = TPrefix.c x ∧ x.ok := by
  obtain ⟨a0, b0, rfl, h0, a1, b1, rfl, h1, rfl⟩ := typed_struct (n := n + 1) Tryd.underlying28 h
  obtain ⟨i0, rfl, w0⟩ := typed_int Tryd.underlying23 h0
  obtain ⟨i1, rfl, w1⟩ := typed_int Tryd.underlying3 h1
  exact ⟨⟨i0, i1⟩, rfl, w0, w1⟩
theorem of45 {n : Nat} {cs : List PVal} (h : Typed Tryd.prog (n + 2) 45 cs) : ∃ x : THop, cs = THop.c x ∧ x.ok := by
  obtain ⟨a0, b0, rfl, h0, a1, b1, rfl, h1, rfl⟩ := typed_struct (n := n + 1) Tryd.underlying45 h
  obtain ⟨i0, rfl, w0⟩ := typed_int Tryd.underlying3 h0
  obtain ⟨i1, rfl, w1⟩ := typed_int Tryd.underlying23 h1
  exact ⟨⟨i0, i1⟩, rfl, w0, w1⟩
theorem of29 {n : Nat} {cs : List PVal} (h : Typed Tryd.prog (n + 3) 29 cs) : ∃ x : List THop, cs = [.ro 2 (x.map THop.c)] ∧ ∀ y ∈ x, THop.ok y := by
  obtain ⟨es, rfl, h2⟩ := typed_slice (n := n + 2) (sz := 2) Tryd.underlying29 (by kernel_rfl) h
  obtain ⟨l, rfl, hl⟩ := list_of (c := THop.c) (ok := (fun y => THop.ok y)) (es := es) (fun x hx => of45 (h2 x hx))
  exact ⟨l, rfl, hl⟩
theorem of34 {n : Nat} {cs : List PVal} (h : Typed Tryd.prog (n + 4) 34 cs) : ∃ x : TCand, cs = TCand.c x ∧ x.ok := by
  obtain ⟨a0, b0, rfl, h0, a1, b1, rfl, h1, a2, b2, rfl, h2, a3, b3, rfl, h3, a4, b4, rfl, h4, a5, b5, rfl, h5, a6, b6, rfl, h6, a7, b7, rfl, h7, a8, b8, rfl, h8, rfl⟩ := typed_struct (n := n + 3) Tryd.underlying34 h
  obtain ⟨i0, rfl, w0⟩ := of28 h0
  obtain ⟨i1, rfl, w1⟩ := typed_int Tryd.underlying3 h1
  obtain ⟨i2, rfl, w2⟩ := typed_int Tryd.underlying3 h2
  obtain ⟨i3, rfl, w3⟩ := typed_int Tryd.underlying3 h3
  obtain ⟨i4, rfl, w4⟩ := typed_int Tryd.underlying3 h4
  obtain ⟨i5, rfl, w5⟩ := typed_int Tryd.underlying23 h5
  obtain ⟨i6, rfl⟩ := typed_bool Tryd.underlying4 h6
  obtain ⟨i7, rfl, w7⟩ := typed_int Tryd.underlying3 h7
  obtain ⟨i8, rfl, w8⟩ := of29 h8
  exact ⟨⟨i0, i1, i2, i3, i4, i5, i6, i7, i8⟩, rfl, w0, w1, w2, w3, w4, w5, w7, w8⟩
theorem of22 {n : Nat} {cs : List PVal} (h : Typed Tryd.prog (n + 5) 22 cs) : ∃ x : List TCand, cs = [.ro 10 (x.map TCand.c)] ∧ ∀ y ∈ x, TCand.ok y := by
  obtain ⟨es, rfl, h2⟩ := typed_slice (n := n + 4) (sz := 10) Tryd.underlying22 (by kernel_rfl) h
  obtain ⟨l, rfl, hl⟩ := list_of (c := TCand.c) (ok := (fun y => TCand.ok y)) (es := es) (fun x hx => of34 (h2 x hx))
  exact ⟨l, rfl, hl⟩
end Go.Proofs.YtakallenldpkiaaDoor.Abs
