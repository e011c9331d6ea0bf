/- The library's functions that are called, by the kit's contracts at this program. -/
import Derived.Test.YtjcpkgnlnmajjaaGreatDoorEn
import Derived.Test.YtjcpkgnlnmajjaaGreatDoorA30
import Derived.Test.YtjcpkgnlnmajjaaGreatDoorS9
import Derived.Test.YtjcpkgnlnmajjaaGreatDoorShelf
set_option linter.unusedVariables false
namespace Go.Proofs.YtjcpkgnlnmajjaaGreatDoor.Abs
open Go Go.Shelf

theorem may03_len {p : TPrefix} {c : Bool} (h : F38_crossroadsref03_May p = c) (hc : c = true) : p.N ≤ 32 := by
  subst hc
  unfold F38_crossroadsref03_May at h
  by_cases h1 : p.N < 0
  · omega
  · by_cases h2 : 32 < p.N
    · simp [h1, h2] at h
    · omega

theorem f61_ok (s sep : ByteArray) (R : ByteArray × ByteArray × Bool) (hR : cutO s sep = some R) : FnOk Tryz.prog 61 [.str s, .str sep] [] 0 (.tup [.str R.1, .str R.2.1, .bool R.2.2]) [] 0 :=
  cutO_ok (ρ := Tryz.lays145_ren) Tryz.lays145 (enters_of Tryz.func61 (by kernel_rfl) rfl) (.head _) s sep R hR
theorem f30_ok (s sep : ByteArray) (R : List ByteArray) (hR : splitO s sep = some R) : FnOk Tryz.prog 30 [.str s, .str sep] [] 0 (.ro 1 (R.map c_str)) [] 0 :=
  splitO_ok (ρ := Tryz.laysM146_ren) Tryz.laysM146 (enters_of Tryz.func30 (by kernel_rfl) rfl) (.head _) s sep R hR
theorem f34_ok (n : Int) (R : ByteArray) (hR : itoaO n = some R) : FnOk Tryz.prog 34 [.int .i64 n] [] 0 (.str R) [] 0 :=
  itoaO_ok (ρ := Tryz.laysM171_ren) Tryz.laysM171 (enters_of Tryz.func34 (by kernel_rfl) rfl) (b := 3) (by kernel_rfl) (.tail _ (.head _)) n R hR
theorem f36_ok (xs : List ByteArray) (sep R : ByteArray) (hR : joinO xs sep = some R) : FnOk Tryz.prog 36 [.ro 1 (xs.map c_str), .str sep] [] 0 (.str R) [] 0 :=
  joinO_ok (ρ := Tryz.lays156_ren) Tryz.lays156 Tryz.Builder_Extra_156 (enters_of Tryz.func36 (by kernel_rfl) rfl) xs sep R hR
theorem f92_ok (s : ByteArray) (g : FuncId) (gf gc : List PVal) (h : Int → Bool) (hcl : gf = [] ∧ PVal.closed.go gc = true)
    (hg : ∀ (y : Int) (R : Bool), h y = R → FnOk Tryz.prog g (gf ++ [.int .i32 y] ++ gc) [] 0 (.bool R) [] 0) (R : Bool) (hR : containsFuncS s h = R) : FnOk Tryz.prog 92 [.str s, .fn g gf gc] [] 0 (.bool R) [] 0 := by
  obtain ⟨rfl, hc⟩ := hcl
  subst hR
  exact containsFunc_ok (ρ := Tryz.laysGw17_ren) Tryz.laysGw17 (enters_of Tryz.func92 (by kernel_rfl) rfl) s g gc h hc hg
theorem f60_ok (s : ByteArray) (R : Int × Unit) (hR : atoiO s = some R) : FnOk Tryz.prog 60 [.str s] [] 0 (.tup [.int .i64 R.1, .nili]) [] 0 :=
  atoiO_ok (ρ := Tryz.lays172_ren) Tryz.lays172 (enters_of Tryz.func60 (by kernel_rfl) rfl) s R hR
theorem f59_ok (s cs R : ByteArray) (hR : trimO s cs = some R) : FnOk Tryz.prog 59 [.str s, .str cs] [] 0 (.str R) [] 0 :=
  trimO_ok (ρ := Tryz.lays160_ren) Tryz.lays160 (by kernel_rfl) (enters_of Tryz.func59 (by kernel_rfl) rfl) s cs R hR

end Go.Proofs.YtjcpkgnlnmajjaaGreatDoor.Abs
