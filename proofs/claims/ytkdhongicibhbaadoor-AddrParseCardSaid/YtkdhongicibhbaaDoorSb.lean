/- The library's functions that are called, by the kit's contracts at this program. -/
import Derived.Test.YtkdhongicibhbaaDoorEn
import Derived.Test.YtkdhongicibhbaaDoorA30
import Derived.Test.YtkdhongicibhbaaDoorS8
import Derived.Test.YtkdhongicibhbaaDoorShelf
set_option linter.unusedVariables false
namespace Go.Proofs.YtkdhongicibhbaaDoor.Abs
open Go Go.Shelf

theorem may03_len {p : TPrefix} {c : Bool} (h : F26_crossroadsref03_May p = c) (hc : c = true) : p.N ≤ 32 := by
  subst hc
  unfold F26_crossroadsref03_May at h
  by_cases h1 : p.N < 0
  · omega
  · by_cases h2 : 32 < p.N
    · simp [h1, h2] at h
    · omega

theorem f32_ok (s sep : ByteArray) (R : ByteArray × ByteArray × Bool) (hR : cutO s sep = some R) : FnOk Tryd.prog 32 [.str s, .str sep] [] 0 (.tup [.str R.1, .str R.2.1, .bool R.2.2]) [] 0 :=
  cutO_ok (ρ := Tryd.lays145_ren) Tryd.lays145 (enters_of Tryd.func32 (by kernel_rfl) rfl) (.head _) s sep R hR
theorem f33_ok (s sep : ByteArray) (R : List ByteArray) (hR : splitO s sep = some R) : FnOk Tryd.prog 33 [.str s, .str sep] [] 0 (.ro 1 (R.map c_str)) [] 0 :=
  splitO_ok (ρ := Tryd.laysM146_ren) Tryd.laysM146 (enters_of Tryd.func33 (by kernel_rfl) rfl) (.head _) s sep R hR
theorem f36_ok (n : Int) (R : ByteArray) (hR : itoaO n = some R) : FnOk Tryd.prog 36 [.int .i64 n] [] 0 (.str R) [] 0 :=
  itoaO_ok (ρ := Tryd.laysM171_ren) Tryd.laysM171 (enters_of Tryd.func36 (by kernel_rfl) rfl) (b := 3) (by kernel_rfl) (.tail _ (.head _)) n R hR
theorem f37_ok (xs : List ByteArray) (sep R : ByteArray) (hR : joinO xs sep = some R) : FnOk Tryd.prog 37 [.ro 1 (xs.map c_str), .str sep] [] 0 (.str R) [] 0 :=
  joinO_ok (ρ := Tryd.lays156_ren) Tryd.lays156 Tryd.Builder_Extra_156 (enters_of Tryd.func37 (by kernel_rfl) rfl) xs sep R hR
theorem f44_ok (s : ByteArray) (g : FuncId) (gf gc : List PVal) (h : Int → Bool) (hcl : gf = [] ∧ PVal.closed.go gc = true)
    (hg : ∀ (y : Int) (R : Bool), h y = R → FnOk Tryd.prog g (gf ++ [.int .i32 y] ++ gc) [] 0 (.bool R) [] 0) (R : Bool) (hR : containsFuncS s h = R) : FnOk Tryd.prog 44 [.str s, .fn g gf gc] [] 0 (.bool R) [] 0 := by
  obtain ⟨rfl, hc⟩ := hcl
  subst hR
  exact containsFunc_ok (ρ := Tryd.laysGw17_ren) Tryd.laysGw17 (enters_of Tryd.func44 (by kernel_rfl) rfl) s g gc h hc hg
theorem f45_ok (s : ByteArray) (R : Int × Unit) (hR : atoiO s = some R) : FnOk Tryd.prog 45 [.str s] [] 0 (.tup [.int .i64 R.1, .nili]) [] 0 :=
  atoiO_ok (ρ := Tryd.lays172_ren) Tryd.lays172 (enters_of Tryd.func45 (by kernel_rfl) rfl) s R hR

end Go.Proofs.YtkdhongicibhbaaDoor.Abs
