/- Arguments, typed (printed by this work's own program rows.py). -/
import Derived.Test.YtakallenldpkiaaA23
import Derived.Test.YtakallenldpkiaaEn
import Derived.KernelRfl
set_option linter.unusedVariables false
set_option maxRecDepth 10000
namespace Go.Proofs.Ytakallenldpkiaa.Abs
open Go

def TPrefix.ok (x : TPrefix) : Prop := InK .u32 x.A ∧ InK .i64 x.N

def TAct.ok (x : TAct) : Prop := TPrefix.ok x.P ∧ InK .i64 x.V ∧ InK .u32 x.A

theorem of29 {n : Nat} {cs : List PVal} (h : Typed Try.prog (n + 2) 29 cs) : ∃ x : TPrefix, cs = TPrefix.c x ∧ x.ok := by
  obtain ⟨a0, b0, rfl, h0, a1, b1, rfl, h1, rfl⟩ := typed_struct (n := n + 1) Try.underlying29 h
  obtain ⟨i0, rfl, w0⟩ := typed_int Try.underlying23 h0
  obtain ⟨i1, rfl, w1⟩ := typed_int Try.underlying3 h1
  exact ⟨⟨i0, i1⟩, rfl, w0, w1⟩

theorem of31 {n : Nat} {cs : List PVal} (h : Typed Try.prog (n + 3) 31 cs) : ∃ x : TAct, cs = TAct.c x ∧ x.ok := by
  obtain ⟨a0, b0, rfl, h0, a1, b1, rfl, h1, a2, b2, rfl, h2, a3, b3, rfl, h3, rfl⟩ := typed_struct (n := n + 2) Try.underlying31 h
  obtain ⟨i0, rfl⟩ := typed_bool Try.underlying4 h0
  obtain ⟨i1, rfl, w1⟩ := of29 h1
  obtain ⟨i2, rfl, w2⟩ := typed_int Try.underlying3 h2
  obtain ⟨i3, rfl, w3⟩ := typed_int Try.underlying23 h3
  exact ⟨⟨i0, i1, i2, i3⟩, rfl, w1, w2, w3⟩

theorem of22 {n : Nat} {cs : List PVal} (h : Typed Try.prog (n + 4) 22 cs) : ∃ x : List TAct, cs = [.ro 5 (x.map TAct.c)] ∧ ∀ y ∈ x, TAct.ok y := by
  obtain ⟨es, rfl, h2⟩ := typed_slice (n := n + 3) (sz := 5) Try.underlying22 (by kernel_rfl) h
  obtain ⟨l, rfl, hl⟩ := list_of (c := TAct.c) (ok := (fun y => TAct.ok y)) (es := es) (fun x hx => of31 (h2 x hx))
  exact ⟨l, rfl, hl⟩

end Go.Proofs.Ytakallenldpkiaa.Abs
