/- Arguments, typed (printed by this work's own program rows.py). -/
import Derived.Test.YtjcpkgnlnmajjaaGreatDoorA23
import Derived.Test.YtjcpkgnlnmajjaaGreatDoorEn
import Derived.KernelRfl
set_option linter.unusedVariables false
set_option maxRecDepth 10000
namespace Go.Proofs.YtjcpkgnlnmajjaaGreatDoor.Abs
open Go

def TPrefix.ok (x : TPrefix) : Prop := InK .u32 x.A ∧ InK .i64 x.N

def TRule.ok (x : TRule) : Prop := InK .i64 x.Seq ∧ TPrefix.ok x.P ∧ InK .i64 x.Ge ∧ InK .i64 x.Le

theorem of24 {n : Nat} {cs : List PVal} (h : Typed Tryz.prog (n + 2) 24 cs) : ∃ x : TPrefix, cs = TPrefix.c x ∧ x.ok := by
  obtain ⟨a0, b0, rfl, h0, a1, b1, rfl, h1, rfl⟩ := typed_struct (n := n + 1) Tryz.underlying24 h
  obtain ⟨i0, rfl, w0⟩ := typed_int Tryz.underlying22 h0
  obtain ⟨i1, rfl, w1⟩ := typed_int Tryz.underlying3 h1
  exact ⟨⟨i0, i1⟩, rfl, w0, w1⟩

theorem of26 {n : Nat} {cs : List PVal} (h : Typed Tryz.prog (n + 3) 26 cs) : ∃ x : TRule, cs = TRule.c x ∧ x.ok := by
  obtain ⟨a0, b0, rfl, h0, a1, b1, rfl, h1, a2, b2, rfl, h2, a3, b3, rfl, h3, a4, b4, rfl, h4, rfl⟩ := typed_struct (n := n + 2) Tryz.underlying26 h
  obtain ⟨i0, rfl, w0⟩ := typed_int Tryz.underlying3 h0
  obtain ⟨i1, rfl⟩ := typed_bool Tryz.underlying4 h1
  obtain ⟨i2, rfl, w2⟩ := of24 h2
  obtain ⟨i3, rfl, w3⟩ := typed_int Tryz.underlying3 h3
  obtain ⟨i4, rfl, w4⟩ := typed_int Tryz.underlying3 h4
  exact ⟨⟨i0, i1, i2, i3, i4⟩, rfl, w0, w2, w3, w4⟩

theorem of42 {n : Nat} {cs : List PVal} (h : Typed Tryz.prog (n + 4) 42 cs) : ∃ x : List TRule, cs = [.ro 6 (x.map TRule.c)] ∧ ∀ y ∈ x, TRule.ok y := by
  obtain ⟨es, rfl, h2⟩ := typed_slice (n := n + 3) (sz := 6) Tryz.underlying42 (by kernel_rfl) h
  obtain ⟨l, rfl, hl⟩ := list_of (c := TRule.c) (ok := (fun y => TRule.ok y)) (es := es) (fun x hx => of26 (h2 x hx))
  exact ⟨l, rfl, hl⟩

end Go.Proofs.YtjcpkgnlnmajjaaGreatDoor.Abs
