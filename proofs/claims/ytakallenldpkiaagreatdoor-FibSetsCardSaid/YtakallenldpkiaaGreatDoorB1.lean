/- Bits of addresses, in plain numbers: masks, single bits. Generic: no program in sight. -/
import Derived.Test.YtakallenldpkiaaGreatDoorP0
set_option linter.unusedVariables false
set_option linter.unusedSimpArgs false
namespace Go.Proofs.YtakallenldpkiaaGreatDoor.Abs
open Go
theorem wu32 {x:Int} (h0:0 ≤ x) (h1:x < 4294967296):IntKind.u32.wrap x = x:=by
 have h3:(2:Int) ^ IntKind.u32.bits = 4294967296:=by decide
 have h5:IntKind.u32.signed = false:=rfl
 simp only [IntKind.wrap,h3,h5,Bool.false_and,Bool.false_eq_true,if_false]
 exact Int.emod_eq_of_lt h0 h1
theorem wu64 {x:Int} (h0:0 ≤ x) (h1:x < 18446744073709551616):IntKind.u64.wrap x = x:=by
 have h3:(2:Int) ^ IntKind.u64.bits = 18446744073709551616:=by decide
 have h5:IntKind.u64.signed = false:=rfl
 simp only [IntKind.wrap,h3,h5,Bool.false_and,Bool.false_eq_true,if_false]
 exact Int.emod_eq_of_lt h0 h1
theorem wi64 {x:Int} (h1 : -9223372036854775808 ≤ x) (h2:x < 9223372036854775808):IntKind.i64.wrap x = x:=by
 have h3:(2:Int) ^ IntKind.i64.bits = 18446744073709551616:=by decide
 have h4:(2:Int) ^ (IntKind.i64.bits - 1) = 9223372036854775808:=by decide
 have h5:IntKind.i64.signed = true:=rfl
 simp only [IntKind.wrap,h3,h4,h5,Bool.true_and,decide_eq_true_eq,ge_iff_le]
 split <;> omega
def maskN (n:Nat):Nat:=(2 ^ n - 1) * 2 ^ (32 - n)
theorem mask_all : ∀ k:Fin 33,IntKind.u32.wrap (shl_ .u64 4294967295 (IntKind.i64.wrap (32 - (min_ (max_ ((k.val:Nat):Int) 0) 32)))) = ((maskN k.val:Nat):Int):=by decide
theorem mask_eq {n:Nat} (h1:n ≤ 32):IntKind.u32.wrap (shl_ .u64 4294967295 (IntKind.i64.wrap (32 - (min_ (max_ (n:Int) 0) 32)))) = ((maskN n:Nat):Int):=mask_all ⟨n,by omega⟩
theorem mask_lt : ∀ k:Fin 33,maskN k.val < 4294967296 ∧ 4294967295 - maskN k.val = 2 ^ (32 - k.val) - 1:=by decide
theorem ofInt32 {a:Nat} (h:a < 4294967296):(BitVec.ofInt IntKind.u32.bits (a:Int)).toNat = a:=by
 have h3:IntKind.u32.bits = 32:=rfl
 rw [h3,BitVec.ofInt_natCast,BitVec.toNat_ofNat]
 exact Nat.mod_eq_of_lt h
theorem andNot_mask {a n:Nat} (ha:a < 4294967296) (hn:n ≤ 32):bit_andNot .u32 (a:Int) ((maskN n:Nat):Int) = ((a % 2 ^ (32 - n):Nat):Int):=by
 obtain ⟨h1,h2⟩:=mask_lt ⟨n,by omega⟩
 simp only at h1 h2
 unfold bit_andNot
 rw [BitVec.toNat_and,BitVec.toNat_not,ofInt32 ha,ofInt32 h1]
 have h3:IntKind.u32.bits = 32:=rfl
 rw [h3,show 2 ^ 32 - 1 - maskN n = 2 ^ (32 - n) - 1 from h2,Nat.and_two_pow_sub_one_eq_mod]
 have:a % 2 ^ (32 - n) ≤ a:=Nat.mod_le _ _
 exact wu32 (by omega) (by omega)
theorem and_mask {a n:Nat} (ha:a < 4294967296) (hn:n ≤ 32):bit_and .u32 (a:Int) ((maskN n:Nat):Int) = ((a / 2 ^ (32 - n) * 2 ^ (32 - n):Nat):Int):=by
 obtain ⟨h1,h2⟩:=mask_lt ⟨n,by omega⟩
 simp only at h1 h2
 unfold bit_and
 rw [BitVec.toNat_and,ofInt32 ha,ofInt32 h1]
 have:a &&& maskN n = a / 2 ^ (32 - n) * 2 ^ (32 - n):=by
  apply Nat.eq_of_testBit_eq
  intro i
  rw [Nat.testBit_and,Nat.testBit_mul_two_pow,maskN,Nat.testBit_mul_two_pow,Nat.testBit_two_pow_sub_one,Nat.testBit_div_two_pow]
  by_cases hi:32 - n ≤ i
  ·have e:i - (32 - n) + (32 - n) = i:=by omega
   rw [e]
   by_cases hj:i < 32
   ·have:i - (32 - n) < n:=by omega
    simp [hi,this]
   ·have:a.testBit i = false:=Nat.testBit_lt_two_pow (Nat.lt_of_lt_of_le (show a < 2 ^ 32 from ha) (Nat.pow_le_pow_right (by decide) (by omega)))
    simp [this]
  ·simp [hi]
 rw [this]
 have:a / 2 ^ (32 - n) * 2 ^ (32 - n) ≤ a:=Nat.div_mul_le_self _ _
 exact wu32 (by omega) (by omega)
theorem bit_eq {a i:Nat} (ha:a < 4294967296) (hi:i < 32):IntKind.i64.wrap (bit_and .u32 (shr_ .u32 (a:Int) (IntKind.u64.wrap (IntKind.i64.wrap (31 - (i:Int))))) 1) = if a.testBit (31 - i) then 1 else 0:=by
 rw [wi64 (x:=31 - (i:Int)) (by omega) (by omega),wu64 (by omega) (by omega)]
 have hs:shr_ .u32 (a:Int) (31 - (i:Int)) = ((a / 2 ^ (31 - i):Nat):Int):=by
  unfold shr_
  have h3:IntKind.u32.bits = 32:=rfl
  have e:min (31 - (i:Int)).toNat 32 = 31 - i:=by omega
  rw [h3,e]
  rw [Int.fdiv_eq_ediv_of_nonneg _ (by exact_mod_cast Nat.zero_le (2 ^ (31 - i)))]
  simp
 rw [hs]
 have hle:a / 2 ^ (31 - i) < 4294967296:=Nat.lt_of_le_of_lt (Nat.div_le_self _ _) ha
 unfold bit_and
 have h1:(BitVec.ofInt IntKind.u32.bits (1:Int)).toNat = 1:=by decide
 rw [BitVec.toNat_and,ofInt32 hle,h1,Nat.and_one_is_mod]
 have hm:a / 2 ^ (31 - i) % 2 < 2:=Nat.mod_lt _ (by decide)
 rw [wu32 (by omega) (by omega),wi64 (by omega) (by omega)]
 have:=Nat.testBit_eq_decide_div_mod_eq (x:=a) (i:=31 - i)
 rw [this]
 by_cases hb:a / 2 ^ (31 - i) % 2 = 1
 ·simp [hb]
 ·have:a / 2 ^ (31 - i) % 2 = 0:=by omega
  simp [this]
theorem low_zero {a k:Nat}:a % 2 ^ k = 0 ↔ ∀ j,j < k → a.testBit j = false:=by
 constructor
 ·intro h j hj
  have:(a % 2 ^ k).testBit j = a.testBit j:=by rw [Nat.testBit_mod_two_pow]; simp [hj]
  rw [← this,h,Nat.zero_testBit]
 ·intro h
  apply Nat.eq_of_testBit_eq
  intro j
  rw [Nat.testBit_mod_two_pow,Nat.zero_testBit]
  by_cases hj:j < k
  ·simp [h j hj]
  ·simp [hj]
theorem high_same {a b k:Nat} (ha:a < 4294967296) (hb:b < 4294967296):a / 2 ^ k = b / 2 ^ k ↔ ∀ j,k ≤ j → j < 32 → a.testBit j = b.testBit j:=by
 constructor
 ·intro h j hj _
  have h1:=Nat.testBit_div_two_pow (x:=a) (i:=j - k) (n:=k)
  have h2:=Nat.testBit_div_two_pow (x:=b) (i:=j - k) (n:=k)
  rw [show j - k + k = j by omega] at h1 h2
  rw [← h1,← h2,h]
 ·intro h
  apply Nat.eq_of_testBit_eq
  intro j
  rw [Nat.testBit_div_two_pow,Nat.testBit_div_two_pow]
  by_cases hj:j + k < 32
  ·exact h _ (by omega) hj
  ·rw [Nat.testBit_lt_two_pow (Nat.lt_of_lt_of_le (show a < 2 ^ 32 from ha) (Nat.pow_le_pow_right (by decide) (by omega))),Nat.testBit_lt_two_pow (Nat.lt_of_lt_of_le (show b < 2 ^ 32 from hb) (Nat.pow_le_pow_right (by decide) (by omega)))]
end Go.Proofs.YtakallenldpkiaaGreatDoor.Abs
