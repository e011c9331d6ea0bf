/- What functions of Go's library do with strings, and with rows in order, as plain functions. -/
import Derived.Test.YtakallenldpkiaaGreatDoorP0
import Derived.Lib.Join
import Derived.Lib.ItoaNum
set_option linter.unusedVariables false
namespace Go.Proofs.YtakallenldpkiaaGreatDoor.Abs
open Go
def bytesOf (l:List UInt8):ByteArray:=⟨l.toArray⟩
def joinS (xs:List ByteArray) (sep:ByteArray):ByteArray:=bytesOf (Lib.join (xs.map (·.data.toList)) sep.data.toList)
def joinO (xs:List ByteArray) (sep:ByteArray):Option ByteArray:=if xs.length ≤ 140737488355328 ∧ (joinS xs sep).size ≤ 281474976710656 then some (joinS xs sep) else none
def digsF:Nat → Nat → List UInt8
 | 0,_=>[]
 | f + 1,u=>if u < 10 then [UInt8.ofNat (48 + u)] else digsF f (u / 10) ++ [UInt8.ofNat (48 + u % 10)]
theorem digsF_eq : ∀ (f u:Nat),u < 10 ^ f → 0 < f → digsF f u = Lib.decDigits u
 | 0,u,h,h0=>absurd h0 (by omega)
 | f + 1,u,h,_=>by
  rw [Lib.decDigits,digsF]
  by_cases hu:u < 10
  ·rw [if_pos hu,dif_pos hu]
  ·rw [if_neg hu,dif_neg hu]
   have hf:0 < f:=by
    rcases Nat.eq_zero_or_pos f with rfl | h1
    ·simp at h; omega
    ·exact h1
   rw [digsF_eq f (u / 10) (by rw [Nat.pow_succ] at h; omega) hf]
def itoaS (n:Int):ByteArray:=bytesOf (if n < 0 then 45 :: digsF 20 n.natAbs else digsF 20 n.toNat)
def itoaO (n:Int):Option ByteArray:=if -9223372036854775808 ≤ n ∧ n ≤ 9223372036854775807 then some (itoaS n) else none
theorem itoaS_eq {n:Int} (h0 : -9223372036854775808 ≤ n) (h1:n ≤ 9223372036854775807):itoaS n = bytesOf (Lib.itoa n):=by
 unfold itoaS Lib.itoa
 by_cases h:n < 0
 ·rw [if_pos h,if_pos h,digsF_eq 20 _ (by omega) (by decide)]
 ·rw [if_neg h,if_neg h,digsF_eq 20 _ (by omega) (by decide)]
def fmtuS (u:Int):ByteArray:=bytesOf (digsF 20 u.toNat)
def fmtuO (u b:Int):Option ByteArray:=if 0 ≤ u ∧ u ≤ 18446744073709551615 ∧ b = 10 then some (fmtuS u) else none
def sortQ {α:Type} (cf:α → α → Int) (L:List α):List α:=L.mergeSort fun x y=>!(decide (cf y x < 0))
end Go.Proofs.YtakallenldpkiaaGreatDoor.Abs
