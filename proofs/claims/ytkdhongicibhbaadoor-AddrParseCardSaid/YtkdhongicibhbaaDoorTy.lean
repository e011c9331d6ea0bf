/- Arguments, typed (printed by this work's own program rows.py). -/
import Derived.Test.YtkdhongicibhbaaDoorA23
import Derived.Test.YtkdhongicibhbaaDoorEn
import Derived.KernelRfl
set_option linter.unusedVariables false
set_option maxRecDepth 10000
namespace Go.Proofs.YtkdhongicibhbaaDoor.Abs
open Go

def TPrefix.ok (x : TPrefix) : Prop := InK .u32 x.A ∧ InK .i64 x.N

theorem of25 {n : Nat} {cs : List PVal} (h : Typed Tryd.prog (n + 2) 25 cs) : ∃ x : TPrefix, cs = TPrefix.c x ∧ x.ok := by
  obtain ⟨a0, b0, rfl, h0, a1, b1, rfl, h1, rfl⟩ := typed_struct (n := n + 1) Tryd.underlying25 h
  obtain ⟨i0, rfl, w0⟩ := typed_int Tryd.underlying23 h0
  obtain ⟨i1, rfl, w1⟩ := typed_int Tryd.underlying3 h1
  exact ⟨⟨i0, i1⟩, rfl, w0, w1⟩

end Go.Proofs.YtkdhongicibhbaaDoor.Abs
