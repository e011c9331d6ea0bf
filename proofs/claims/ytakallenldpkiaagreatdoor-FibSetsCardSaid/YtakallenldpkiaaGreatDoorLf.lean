import Derived.Test.YtakallenldpkiaaGreatDoorPu
import Derived.Test.YtakallenldpkiaaGreatDoorA23
import Derived.Test.YtakallenldpkiaaGreatDoorB1
import Derived.KernelRfl
import Derived.Test.YtakallenldpkiaaGreatDoorTy
import Derived.Test.YtakallenldpkiaaGreatDoorLn
/- Of the abstract machine and its walks: see the texts that import this. -/
section
section
set_option linter.unusedVariables false
namespace Go.Proofs.YtakallenldpkiaaGreatDoor.Abs
open Go
def Fo29_crossroadsref03_Less (p0:qk) (q1:qk):Bool :=
 ((decide (p0.A < q1.A)) || ((decide (p0.A = q1.A)) && (decide (p0.N < q1.N))))
theorem obS {α β:Type} (x:α) (f:α → Option β):obind (some x) f = f x:=rfl
theorem obE {α β:Type} {o:Option α} {f:α → Option β} {x:α} {r:Option β} (h:o = some x) (k:f x = r):obind o f = r:=by rw [h]; exact k
end Go.Proofs.YtakallenldpkiaaGreatDoor.Abs
end
section
set_option linter.unusedVariables false
set_option linter.unusedSimpArgs false
namespace Go.Proofs.YtakallenldpkiaaGreatDoor.Abs
open Go
theorem u32_nat {x:Int} (h:InK .u32 x) : ∃ a:Nat,x = (a:Int) ∧ a < 4294967296:=by
 obtain ⟨h1,h2⟩:=h
 have e1:IntKind.u32.min = 0:=by decide
 have e2:IntKind.u32.max = 4294967295:=by decide
 rw [e1] at h1; rw [e2] at h2
 exact ⟨x.toNat,by omega,by omega⟩
theorem addrMay_iff {p:qk} (h:InK .u32 p.A):F28 p = true ↔ ∃ a n:Nat,p.A = a ∧ p.N = n ∧ a < 4294967296 ∧ n ≤ 32 ∧ a % 2 ^ (32 - n) = 0:=by
 obtain ⟨a,ha,hlt⟩:=u32_nat h
 unfold F28 F43 F44
 simp only [Bool.and_eq_true,decide_eq_true_eq]
 constructor
 ·rintro ⟨⟨h1,h2⟩,h3⟩
  obtain ⟨n,hn⟩:=Int.eq_ofNat_of_zero_le h1
  have hn32:n ≤ 32:=by omega
  rw [hn,ha,mask_eq hn32,andNot_mask hlt hn32] at h3
  exact ⟨a,n,ha,hn,hlt,hn32,by exact_mod_cast h3⟩
 ·rintro ⟨a',n,h1,h2,h3,h4,h5⟩
  have:a' = a:=by omega
  subst this
  refine ⟨by omega,?_⟩
  rw [h2,h1,mask_eq h4,andNot_mask h3 h4,h5]
  rfl
theorem bit60 {a i:Nat} (ha:a < 4294967296) (hi:i < 32):F21 (a:Int) (i:Int) = if a.testBit (31 - i) then 1 else 0:=by
 unfold F21
 have h1 : ¬ ((i:Int) < 0):=by omega
 have h2 : ¬ (31 < (i:Int)):=by omega
 simp only [h1,h2,decide_false,cond_false]
 exact bit_eq ha hi
theorem may_l1 {p:qk} {a:Nat} (ha:p.A = a) (hlt:a < 4294967296) : ∀ (fuel i:Nat),i ≤ 32 → 32 - i ≤ fuel → (F8l1 p fuel i = .ok () ∧ (∀ j,i ≤ j → j < 32 → a.testBit (31 - j) = false)) ∨ (F8l1 p fuel i = .error false ∧ ∃ j,i ≤ j ∧ j < 32 ∧ a.testBit (31 - j) = true)
 | fuel,i,hi,hf=>by
  unfold F8l1
  by_cases h:i < 32
  ·have h':(i:Int) < 32:=by omega
   match fuel,hf with
   | 0,hf=>exact absurd hf (by omega)
   | fuel + 1,hf =>
    simp only [h',decide_true,cond_true]
    rw [ha,bit60 hlt h]
    cases hb:a.testBit (31 - i) with
    | true=>right; exact ⟨by simp,i,Nat.le_refl _,h,hb⟩
    | false =>
     have e:IntKind.i64.wrap ((i:Int) + 1) = ((i + 1:Nat):Int):=by rw [wi64 (by omega) (by omega)]; omega
     rw [e]
     have ih:=may_l1 ha hlt fuel (i + 1) (by omega) (by omega)
     rcases ih with ⟨h1,h2⟩ | ⟨h1,j,h2,h3,h4⟩
     ·left
      refine ⟨by simpa using h1,fun j hj hj'=>?_⟩
      rcases Nat.eq_or_lt_of_le hj with rfl | hlt'
      ·exact hb
      ·exact h2 j hlt' hj'
     ·right
      exact ⟨by simpa using h1,j,by omega,h3,h4⟩
  ·have h' : ¬ ((i:Int) < 32):=by omega
   simp only [h',decide_false,cond_false]
   left
   exact ⟨trivial,fun j hj hj'=>by omega⟩
theorem fuel_nat {i B:Nat} (hi:i ≤ 4294967296) (hB:B ≤ 4294967296):fuelUp (i:Int) (B:Int) = B - i:=by
 unfold fuelUp
 rw [if_pos (by omega)]
 omega
theorem refMay_iff {p:qk} (h:InK .u32 p.A):F8 p = true ↔ ∃ a n:Nat,p.A = a ∧ p.N = n ∧ a < 4294967296 ∧ n ≤ 32 ∧ a % 2 ^ (32 - n) = 0:=by
 obtain ⟨a,ha,hlt⟩:=u32_nat h
 unfold F8
 by_cases h1:p.N < 0
 ·simp only [h1,decide_true,cond_true]
  simp only [Bool.false_eq_true,false_iff]
  rintro ⟨_,n,_,h2,_⟩
  omega
 ·by_cases h2:32 < p.N
  ·simp only [h1,h2,decide_true,decide_false,cond_true,cond_false]
   simp only [Bool.false_eq_true,false_iff]
   rintro ⟨_,n,_,h2,_,h3,_⟩
   omega
  ·simp only [h1,h2,decide_false,cond_false]
   obtain ⟨n,hn⟩:=Int.eq_ofNat_of_zero_le (show 0 ≤ p.N by omega)
   have hn32:n ≤ 32:=by omega
   have hz:(∀ j,n ≤ j → j < 32 → a.testBit (31 - j) = false) ↔ a % 2 ^ (32 - n) = 0:=by
    rw [low_zero]
    constructor
    ·intro h j hj
     have:=h (31 - j) (by omega) (by omega)
     rwa [show 31 - (31 - j) = j by omega] at this
    ·intro h j hj hj'
     exact h _ (by omega)
   have hf:fuelUp p.N 32 = 32 - n:=by rw [hn]; exact fuel_nat (B:=32) (by omega) (by decide)
   rw [hf,hn]
   rcases may_l1 ha hlt (32 - n) n hn32 (Nat.le_refl _) with ⟨k1,k2⟩ | ⟨k1,j,k2,k3,k4⟩
   ·rw [k1]
    simp only [true_iff]
    exact ⟨a,n,ha,rfl,hlt,hn32,hz.1 k2⟩
   ·rw [k1]
    simp only [Bool.false_eq_true,false_iff]
    rintro ⟨a',n',g1,g2,g3,g4,g5⟩
    have e1:a' = a:=by omega
    have e2:n' = n:=by omega
    subst e1 e2
    have:=hz.2 g5 j k2 k3
    rw [k4] at this
    cases this
theorem may_same {p:qk} (h:InK .u32 p.A):F28 p = F8 p:=by
 rw [Bool.eq_iff_iff,addrMay_iff h,refMay_iff h]
theorem has_l1 {p:qk} {a b n:Nat} (hp:p.A = a) (hn:p.N = n) (hn32:n ≤ 32) (ha:a < 4294967296) (hb:b < 4294967296) : ∀ (fuel i:Nat),i ≤ n → n - i ≤ fuel →
  (F9l1 p b fuel i = .ok () ∧ (∀ j,i ≤ j → j < n → a.testBit (31 - j) = b.testBit (31 - j))) ∨ (F9l1 p b fuel i = .error false ∧ ∃ j,i ≤ j ∧ j < n ∧ a.testBit (31 - j) ≠ b.testBit (31 - j))
 | fuel,i,hi,hf=>by
  unfold F9l1
  by_cases h:i < n
  ·have h':(i:Int) < p.N:=by omega
   match fuel,hf with
   | 0,hf=>exact absurd hf (by omega)
   | fuel + 1,hf =>
    simp only [h',decide_true,cond_true]
    rw [hp,bit60 ha (by omega),bit60 hb (by omega)]
    by_cases hbit:a.testBit (31 - i) = b.testBit (31 - i)
    ·rw [hbit]
     have e:IntKind.i64.wrap ((i:Int) + 1) = ((i + 1:Nat):Int):=by rw [wi64 (by omega) (by omega)]; omega
     rw [e]
     have ih:=has_l1 hp hn hn32 ha hb fuel (i + 1) (by omega) (by omega)
     rcases ih with ⟨h1,h2⟩ | ⟨h1,j,h2,h3,h4⟩
     ·left
      refine ⟨by simpa using h1,fun j hj hj'=>?_⟩
      rcases Nat.eq_or_lt_of_le hj with rfl | hlt'
      ·exact hbit
      ·exact h2 j hlt' hj'
     ·right
      exact ⟨by simpa using h1,j,by omega,h3,h4⟩
    ·right
     refine ⟨?_,i,Nat.le_refl _,h,hbit⟩
     cases h1:a.testBit (31 - i) <;> cases h2:b.testBit (31 - i) <;> simp_all
  ·have h' : ¬ ((i:Int) < p.N):=by omega
   simp only [h',decide_false,cond_false]
   left
   exact ⟨trivial,fun j hj hj'=>by omega⟩
theorem has_same {p:qk} {x:Int} (h:InK .u32 p.A) (hx:InK .u32 x):F66 p x = F9 p x:=by
 unfold F66 F9
 rw [may_same h]
 cases hm:F8 p with
 | false=>rfl
 | true =>
  obtain ⟨a,n,h1,h2,h3,h4,h5⟩:=(refMay_iff h).1 hm
  obtain ⟨b,rfl,hb⟩:=u32_nat hx
  simp only [Bool.true_and]
  unfold F44
  have hf:fuelUp 0 p.N = n:=by rw [h2]; exact fuel_nat (i:=0) (by omega) (by omega)
  rw [hf,h2,mask_eq h4,and_mask hb h4]
  have key:(b / 2 ^ (32 - n) * 2 ^ (32 - n) = a) ↔ ∀ j,0 ≤ j → j < n → a.testBit (31 - j) = b.testBit (31 - j):=by
   have e:a / 2 ^ (32 - n) * 2 ^ (32 - n) = a:=Nat.div_mul_cancel (Nat.dvd_of_mod_eq_zero h5)
   have e2:(b / 2 ^ (32 - n) * 2 ^ (32 - n) = a) ↔ a / 2 ^ (32 - n) = b / 2 ^ (32 - n):=by
    constructor
    ·intro g
     rw [← g,Nat.mul_div_cancel _ (Nat.two_pow_pos _)]
    ·intro g
     rw [← g,e]
   rw [e2,high_same h3 hb]
   constructor
   ·intro g j _ hj
    exact g _ (by omega) (by omega)
   ·intro g j hj hj'
    have:=g (31 - j) (Nat.zero_le _) (by omega)
    rwa [show 31 - (31 - j) = j by omega] at this
  rcases has_l1 h1 h2 h4 h3 hb n 0 (Nat.zero_le _) (Nat.le_refl _) with ⟨k1,k2⟩ | ⟨k1,j,k2,k3,k4⟩
  ·have k1':F9l1 p b n 0 = .ok ():=k1
   rw [k1']
   have:=key.2 k2
   rw [this,h1]
   simp
  ·have k1':F9l1 p b n 0 = .error false:=k1
   rw [k1',h1]
   simp only [decide_eq_false_iff_not]
   intro g
   have g':b / 2 ^ (32 - n) * 2 ^ (32 - n) = a:=by exact_mod_cast g
   exact k4 (key.1 g' j k2 k3)
end Go.Proofs.YtakallenldpkiaaGreatDoor.Abs
end
section
set_option linter.unusedVariables false
set_option linter.unusedSimpArgs false
namespace Go.Proofs.YtakallenldpkiaaGreatDoor.Abs
open Go
structure PV (p:qk) (a n:Nat):Prop where
 hA:p.A = a
 hN:p.N = n
 lt:a < 4294967296
 le:n ≤ 32
 al:a % 2 ^ (32 - n) = 0
def V (p:qk):Prop:=∃ a n,PV p a n
theorem may_V {p:qk} (h:InK .u32 p.A):F28 p = true ↔ V p:=by
 rw [addrMay_iff h]
 constructor
 ·rintro ⟨a,n,h1,h2,h3,h4,h5⟩; exact ⟨a,n,h1,h2,h3,h4,h5⟩
 ·rintro ⟨a,n,h1,h2,h3,h4,h5⟩; exact ⟨a,n,h1,h2,h3,h4,h5⟩
theorem inK32 {a:Nat} (h:a < 4294967296):InK .u32 (a:Int):=by
 have e1:IntKind.u32.min = 0:=by decide
 have e2:IntKind.u32.max = 4294967295:=by decide
 unfold InK; rw [e1,e2]; omega
theorem V.inK {p:qk} (h:V p):InK .u32 p.A:=by
 obtain ⟨a,n,h⟩:=h
 rw [h.hA]; exact inK32 h.lt
def C (p q:qk):Prop:=∃ a n b m,PV p a n ∧ PV q b m ∧ n ≤ m ∧ b / 2 ^ (32 - n) = a / 2 ^ (32 - n)
theorem C.left {p q:qk} (h:C p q):V p:=by obtain ⟨a,n,b,m,h1,_⟩:=h; exact ⟨a,n,h1⟩
theorem C.right {p q:qk} (h:C p q):V q:=by obtain ⟨a,n,b,m,_,h1,_⟩:=h; exact ⟨b,m,h1⟩
theorem PV.same {p:qk} {a b n m:Nat} (h:PV p a n) (k:PV p b m):a = b ∧ n = m:=by
 have:=h.hA; have:=k.hA; have:=h.hN; have:=k.hN
 omega
theorem align {a k:Nat} (h:a % 2 ^ k = 0):a / 2 ^ k * 2 ^ k = a:=Nat.div_mul_cancel (Nat.dvd_of_mod_eq_zero h)
theorem has_C {p:qk} {b:Nat} (hb:b < 4294967296) (h:InK .u32 p.A):F66 p b = true ↔ ∃ a n,PV p a n ∧ b / 2 ^ (32 - n) = a / 2 ^ (32 - n):=by
 unfold F66
 simp only [Bool.and_eq_true,decide_eq_true_eq]
 rw [may_V h]
 constructor
 ·rintro ⟨⟨a,n,hp⟩,h2⟩
  refine ⟨a,n,hp,?_⟩
  unfold F44 at h2
  rw [hp.hN,mask_eq hp.le,and_mask hb hp.le,hp.hA] at h2
  have h3:b / 2 ^ (32 - n) * 2 ^ (32 - n) = a:=by exact_mod_cast h2
  rw [← h3,Nat.mul_div_cancel _ (Nat.two_pow_pos _)]
 ·rintro ⟨a,n,hp,h2⟩
  refine ⟨⟨a,n,hp⟩,?_⟩
  unfold F44
  rw [hp.hN,mask_eq hp.le,and_mask hb hp.le,hp.hA,h2,align hp.al]
theorem covers_C {p q:qk} (hp:InK .u32 p.A) (hq:InK .u32 q.A):F51 p q = true ↔ C p q:=by
 unfold F51
 simp only [Bool.and_eq_true,decide_eq_true_eq]
 rw [may_V hq]
 constructor
 ·rintro ⟨⟨b,m,hq'⟩,h2,h3⟩
  rw [hq'.hA] at h3
  obtain ⟨a,n,hp',h4⟩:=(has_C hq'.lt hp).1 h3
  refine ⟨a,n,b,m,hp',hq',?_,h4⟩
  have:=hp'.hN; have:=hq'.hN; omega
 ·rintro ⟨a,n,b,m,hp',hq',h2,h3⟩
  refine ⟨⟨b,m,hq'⟩,?_,?_⟩
  ·have:=hp'.hN; have:=hq'.hN; omega
  ·rw [hq'.hA]; exact (has_C hq'.lt hp).2 ⟨a,n,hp',h3⟩
theorem div_more {a b k l:Nat} (h:a / 2 ^ k = b / 2 ^ k) (hl:k ≤ l):a / 2 ^ l = b / 2 ^ l:=by
 obtain ⟨d,rfl⟩:=Nat.exists_eq_add_of_le hl
 rw [Nat.pow_add,← Nat.div_div_eq_div_mul,← Nat.div_div_eq_div_mul,h]
theorem div_half {a k:Nat}:a / 2 ^ (k + 1) = a / 2 ^ k / 2:=by
 rw [Nat.pow_succ,Nat.div_div_eq_div_mul]
theorem div_lt_lt {a b k:Nat} (h:a / 2 ^ k < b / 2 ^ k):a < b:=by
 apply Nat.lt_of_not_le
 intro hl
 exact absurd (Nat.div_le_div_right (c:=2 ^ k) hl) (by omega)
theorem C.refl {p:qk} (h:V p):C p p:=by
 obtain ⟨a,n,h⟩:=h
 exact ⟨a,n,a,n,h,h,Nat.le_refl _,rfl⟩
theorem C.le {p q:qk} (h:C p q):p.N ≤ q.N:=by
 obtain ⟨a,n,b,m,h1,h2,h3,_⟩:=h
 rw [h1.hN,h2.hN]; omega
theorem C.trans {p q r:qk} (h:C p q) (k:C q r):C p r:=by
 obtain ⟨a,n,b,m,h1,h2,h3,h4⟩:=h
 obtain ⟨b',m',c,l,k1,k2,k3,k4⟩:=k
 obtain ⟨rfl,rfl⟩:=h2.same k1
 exact ⟨a,n,c,l,h1,k2,by omega,(div_more k4 (by omega)).trans h4⟩
theorem C.anti {p q:qk} (h:C p q) (e:p.N = q.N):p = q:=by
 obtain ⟨a,n,b,m,h1,h2,h3,h4⟩:=h
 have e2:n = m:=by have:=h1.hN; have:=h2.hN; omega
 subst e2
 have:=align h1.al; have e3:=align h2.al
 rw [h4,this] at e3
 have hA:=h1.hA; have hA':=h2.hA
 cases p; cases q
 simp only at *
 subst e3; simp [hA,hA',e]
theorem C.lt {p q:qk} (h:C p q) (e:p ≠ q):p.N < q.N:=by
 have:=h.le
 by_cases h1:p.N = q.N
 ·exact absurd (h.anti h1) e
 ·omega
theorem C.comp {p q r:qk} (h:C p r) (k:C q r) (e:p.N ≤ q.N):C p q:=by
 obtain ⟨a,n,b,m,h1,h2,h3,h4⟩:=h
 obtain ⟨c,l,b',m',k1,k2,k3,k4⟩:=k
 obtain ⟨rfl,rfl⟩:=h2.same k2
 have hl:n ≤ l:=by have:=h1.hN; have:=k1.hN; omega
 exact ⟨a,n,c,l,h1,k1,hl,(div_more k4.symm (by omega)).trans h4⟩
def Ls (p q:qk):Prop:=p.A < q.A ∨ (p.A = q.A ∧ p.N < q.N)
theorem less_Ls {p q:qk}:Fo29_crossroadsref03_Less p q = true ↔ Ls p q:=by
 unfold Fo29_crossroadsref03_Less Ls
 simp
theorem Ls.irr {p:qk} : ¬ Ls p p:=by unfold Ls; omega
theorem Ls.trans {p q r:qk} (h:Ls p q) (k:Ls q r):Ls p r:=by unfold Ls at *; omega
theorem Ls.asymm {p q:qk} (h:Ls p q) : ¬ Ls q p:=by unfold Ls at *; omega
theorem Ls.ne {p q:qk} (h:Ls p q):p ≠ q:=by rintro rfl; exact Ls.irr h
theorem C.ls {p q:qk} (h:C p q) (e:p ≠ q):Ls p q:=by
 have hn:=h.lt e
 obtain ⟨a,n,b,m,h1,h2,h3,h4⟩:=h
 have:a ≤ b:=by
  have e1:=align h1.al
  rw [← h4] at e1
  have:=Nat.div_mul_le_self b (2 ^ (32 - n))
  omega
 have:=h1.hA; have:=h2.hA
 unfold Ls
 omega
theorem side_eq {p q:qk} {n b:Nat} (hn:p.N = n) (hn':n < 32) (hb:q.A = b) (hlt:b < 4294967296):F60 p q = ((b / 2 ^ (31 - n) % 2:Nat):Int):=by
 unfold F60 F77
 rw [hn,hb]
 have h1 : ¬ ((n:Int) < 0):=by omega
 have h2 : ¬ ((32:Int) ≤ (n:Int)):=by omega
 simp only [h1,h2,decide_false,cond_false]
 have e:=bit_eq hlt hn'
 have e2:IntKind.u64.wrap (IntKind.i64.wrap (31 - (n:Int))) = IntKind.i64.wrap (31 - (n:Int)):=by
  rw [wi64 (by omega) (by omega)]; exact wu64 (by omega) (by omega)
 rw [e2] at e
 rw [e,Nat.testBit_eq_decide_div_mod_eq]
 have:=Nat.mod_two_eq_zero_or_one (b / 2 ^ (31 - n))
 rcases this with h | h <;> rw [h] <;> rfl
theorem side01 (p q:qk) (hp:V p) (hq:V q) (h:p.N < 32):F60 p q = 0 ∨ F60 p q = 1:=by
 obtain ⟨a,n,hp⟩:=hp
 obtain ⟨b,m,hq⟩:=hq
 rw [side_eq hp.hN (by have:=hp.hN; omega) hq.hA hq.lt]
 have:=Nat.mod_two_eq_zero_or_one (b / 2 ^ (31 - n))
 omega
structure Un (x:qk) (s:Int) (q:qk):Prop where
 c:C x q
 lt:x.N < q.N
 sd:F60 x q = s
theorem V.le {p:qk} (h:V p):0 ≤ p.N ∧ p.N ≤ 32:=by
 obtain ⟨a,n,h⟩:=h
 have:=h.hN; have:=h.le; omega
theorem side_same {p q r:qk} (hp:V p) (h:C q r) (hn:p.N < q.N):F60 p q = F60 p r:=by
 obtain ⟨a,n,hp⟩:=hp
 obtain ⟨b,m,c,l,h1,h2,h3,h4⟩:=h
 have e1:=hp.hN; have e2:=h1.hN; have:=h1.le
 have hn':n < 32:=by omega
 rw [side_eq e1 hn' h1.hA h1.lt,side_eq e1 hn' h2.hA h2.lt,div_more h4 (by omega)]
theorem Un.down {x q r:qk} {s:Int} (h:Un x s q) (k:C q r):Un x s r :=
 ⟨h.c.trans k,Int.lt_of_lt_of_le h.lt k.le,(side_same h.c.left k h.lt).symm.trans h.sd⟩
theorem Un.ls {x q r:qk} (h:Un x 0 q) (k:Un x 1 r):Ls q r:=by
 obtain ⟨⟨a,n,b,m,h1,h2,h3,h4⟩,hl,hs⟩:=h
 obtain ⟨⟨a',n',c,l,k1,k2,k3,k4⟩,kl,ks⟩:=k
 obtain ⟨rfl,rfl⟩:=h1.same k1
 have hn:n < 32:=by have:=h2.le; have:=h1.hN; have:=h2.hN; omega
 rw [side_eq h1.hN hn h2.hA h2.lt] at hs
 rw [side_eq h1.hN hn k2.hA k2.lt] at ks
 have e:=h4.trans k4.symm
 have e1:32 - n = (31 - n) + 1:=by omega
 rw [e1,div_half,div_half] at e
 have:b < c:=div_lt_lt (k:=31 - n) (by omega)
 have:=h2.hA; have:=k2.hA
 unfold Ls; omega
theorem Un.apart {x q r:qk} (h:Un x 0 q) (k:Un x 1 r) : ¬ C q r ∧ ¬ C r q:=by
 constructor
 ·intro e
  have:=(h.down e).sd
  rw [k.sd] at this; cases this
 ·intro e
  have:=(k.down e).sd
  rw [h.sd] at this; cases this
def tabS:List Nat:=[0,1,2,2,3,3,3,3,4,4,4,4,4,4,4,4,5,5,5,5,5,5,5,5,5,5,5,5,5,5,5,5,6,6,6,6,6,6,6,6,6,6,6,6,6,6,6,6,6,6,6,6,6,6,6,6,6,6,6,6,6,6,6,6,7,7,7,7,7,7,7,7,7,7,7,7,7,7,7,7,7,7,7,7,7,7,7,7,7,7,7,7,7,7,7,7,7,7,7,7,7,7,7,7,7,7,7,7,7,7,7,7,7,7,7,7,7,7,7,7,7,7,7,7,7,7,7,7,8,8,8,8,8,8,8,8,8,8,8,8,8,8,8,8,8,8,8,8,8,8,8,8,8,8,8,8,8,8,8,8,8,8,8,8,8,8,8,8,8,8,8,8,8,8,8,8,8,8,8,8,8,8,8,8,8,8,8,8,8,8,8,8,8,8,8,8,8,8,8,8,8,8,8,8,8,8,8,8,8,8,8,8,8,8,8,8,8,8,8,8,8,8,8,8,8,8,8,8,8,8,8,8,8,8,8,8,8,8,8,8,8,8,8,8,8,8,8,8,8,8,8,8,8,8,8,8]
theorem tabS_all : ∀ b:Fin 256,strAt (bstr tabS) ((b.val:Nat):Int) ≤ 8 ∧ 0 ≤ strAt (bstr tabS) ((b.val:Nat):Int) ∧ b.val / 2 ^ (strAt (bstr tabS) ((b.val:Nat):Int)).toNat = 0 ∧ (b.val ≠ 0 → 0 < strAt (bstr tabS) ((b.val:Nat):Int) ∧ b.val / 2 ^ ((strAt (bstr tabS) ((b.val:Nat):Int)).toNat - 1) = 1):=by decide +kernel
theorem tabS_spec {b:Nat} (h:b < 256) : ∃ k:Nat,strAt (bstr tabS) (IntKind.u8.wrap (b:Int)) = k ∧ k ≤ 8 ∧ b / 2 ^ k = 0 ∧ (b ≠ 0 → 0 < k ∧ b / 2 ^ (k - 1) = 1):=by
 have e:IntKind.u8.wrap (b:Int) = b:=by
  have h3:(2:Int) ^ IntKind.u8.bits = 256:=by decide
  have h5:IntKind.u8.signed = false:=rfl
  simp only [IntKind.wrap,h3,h5,Bool.false_and,Bool.false_eq_true,if_false]
  omega
 rw [e]
 obtain ⟨h1,h2,h3,h4⟩:=tabS_all ⟨b,h⟩
 simp only at h1 h2 h3 h4
 refine ⟨(strAt (bstr tabS) (b:Int)).toNat,by omega,by omega,h3,fun hb=>?_⟩
 obtain ⟨h5,h6⟩:=h4 hb
 exact ⟨by omega,h6⟩
theorem fdiv_nat (a k:Nat):Int.fdiv (a:Int) (2 ^ k) = ((a / 2 ^ k:Nat):Int):=by
 have e:(2:Int) ^ k = ((2 ^ k:Nat):Int):=by push_cast; rfl
 rw [e,Int.fdiv_eq_ediv_of_nonneg _ (Int.natCast_nonneg _)]
 rfl
set_option maxRecDepth 100000 in
theorem len32_eq (x:Int):F75 x = (bif decide (65536 ≤ x) then
  (bif decide (256 ≤ (Int.fdiv x (2 ^ 16))) then
   IntKind.i64.wrap (24 + (IntKind.i64.wrap (strAt (bstr tabS) (IntKind.u8.wrap (Int.fdiv (Int.fdiv x (2 ^ 16)) (2 ^ 8))))))
  else
   IntKind.i64.wrap (16 + (IntKind.i64.wrap (strAt (bstr tabS) (IntKind.u8.wrap (Int.fdiv x (2 ^ 16)))))))
 else
  (bif decide (256 ≤ x) then
   IntKind.i64.wrap (8 + (IntKind.i64.wrap (strAt (bstr tabS) (IntKind.u8.wrap (Int.fdiv x (2 ^ 8))))))
  else
   IntKind.i64.wrap (0 + (IntKind.i64.wrap (strAt (bstr tabS) (IntKind.u8.wrap x)))))):=by
 delta F75 tabS
 rfl
theorem len_key {x:Nat} (s:Nat) (z:Int) (hz:z = s) (y:Nat) (hy:y = x / 2 ^ s) (hlt:y < 256) (hs:s ≤ 24) (hne:x ≠ 0 → y ≠ 0) : ∃ k:Nat,IntKind.i64.wrap (z + IntKind.i64.wrap (strAt (bstr tabS) (IntKind.u8.wrap (y:Int)))) = k ∧ k ≤ 32 ∧ x / 2 ^ k = 0 ∧ (x ≠ 0 → 0 < k ∧ x / 2 ^ (k - 1) = 1):=by
 obtain ⟨k,e,h1,h2,h3⟩:=tabS_spec hlt
 rw [e,hz,wi64 (x:=(k:Int)) (by omega) (by omega),wi64 (by omega) (by omega)]
 refine ⟨s + k,by omega,by omega,?_,fun hx0=>?_⟩
 ·rw [Nat.pow_add,← Nat.div_div_eq_div_mul,← hy]; exact h2
 ·obtain ⟨g1,g2⟩:=h3 (hne hx0)
  refine ⟨by omega,?_⟩
  rw [show s + k - 1 = s + (k - 1) by omega,Nat.pow_add,← Nat.div_div_eq_div_mul,← hy]; exact g2
theorem len32_spec {x:Nat} (hx:x < 4294967296) : ∃ k:Nat,F75 (x:Int) = k ∧ k ≤ 32 ∧ x / 2 ^ k = 0 ∧ (x ≠ 0 → 0 < k ∧ x / 2 ^ (k - 1) = 1):=by
 rw [len32_eq]
 generalize hT:bstr tabS = T
 rw [fdiv_nat x 16,fdiv_nat x 8]
 rw [show (Int.fdiv ((x / 2 ^ 16:Nat):Int) (2 ^ 8)) = ((x / 2 ^ 16 / 2 ^ 8:Nat):Int) from fdiv_nat _ 8]
 subst hT
 by_cases h1:65536 ≤ x
 ·have h1':(65536:Int) ≤ (x:Int):=by omega
  rw [decide_eq_true h1',cond_true]
  by_cases h2:256 ≤ x / 2 ^ 16
  ·have h2':(256:Int) ≤ ((x / 2 ^ 16:Nat):Int):=by omega
   rw [decide_eq_true h2',cond_true]
   exact len_key 24 24 rfl _ (by omega) (by omega) (by omega) (by omega)
  ·have h2' : ¬ (256:Int) ≤ ((x / 2 ^ 16:Nat):Int):=by omega
   rw [decide_eq_false h2',cond_false]
   exact len_key 16 16 rfl _ (by omega) (by omega) (by omega) (by omega)
 ·have h1' : ¬ (65536:Int) ≤ (x:Int):=by omega
  rw [decide_eq_false h1',cond_false]
  by_cases h2:256 ≤ x
  ·have h2':(256:Int) ≤ (x:Int):=by omega
   rw [decide_eq_true h2',cond_true]
   exact len_key 8 8 rfl _ (by omega) (by omega) (by omega) (by omega)
  ·have h2' : ¬ (256:Int) ≤ (x:Int):=by omega
   rw [decide_eq_false h2',cond_false]
   exact len_key 0 0 rfl x (by omega) (by omega) (by omega) (by omega)
theorem xor_div {a b k:Nat}:(a ^^^ b) / 2 ^ k = (a / 2 ^ k) ^^^ (b / 2 ^ k):=by
 apply Nat.eq_of_testBit_eq
 intro i
 simp [Nat.testBit_div_two_pow,Nat.testBit_xor]
theorem xor_u32 {a b:Nat} (ha:a < 4294967296) (hb:b < 4294967296):bit_xor .u32 (a:Int) (b:Int) = ((a ^^^ b:Nat):Int) ∧ a ^^^ b < 4294967296:=by
 have h3:a ^^^ b < 4294967296:=Nat.xor_lt_two_pow (n:=32) ha hb
 refine ⟨?_,h3⟩
 unfold bit_xor
 have h5:IntKind.u32.signed = false:=rfl
 simp only [h5,Bool.false_eq_true,if_false,BitVec.toNat_xor,ofInt32 ha,ofInt32 hb]
 exact wu32 (by omega) (by omega)
theorem xor_zero {a b:Nat} (h:a ^^^ b = 0):a = b:=by
 apply Nat.eq_of_testBit_eq
 intro i
 have:=congrArg (fun x=>x.testBit i) h
 simpa [Nat.testBit_xor] using this
theorem min3 (x y z:Nat):min_ (min_ (x:Int) (y:Int)) (z:Int) = ((min (min x y) z:Nat):Int):=by
 unfold min_
 split <;> split <;> omega
theorem common_spec {p q:qk} (hp:V p) (hq:V q) (h1 : ¬ C p q) (h2 : ¬ C q p) :
  ∃ c,F61 p q = c ∧ V c ∧ C c p ∧ C c q ∧ c.N < p.N ∧ c.N < q.N ∧ F60 c p ≠ F60 c q:=by
 have mp:=(may_V hp.inK).2 hp
 have mq:=(may_V hq.inK).2 hq
 obtain ⟨a,n,hp⟩:=hp
 obtain ⟨b,m,hq⟩:=hq
 unfold F61
 simp only [mp,mq,cond_true]
 rw [hp.hA,hq.hA,hp.hN,hq.hN]
 obtain ⟨e1,e2⟩:=xor_u32 hp.lt hq.lt
 rw [e1]
 unfold F78
 obtain ⟨k,e,k1,k2,k3⟩:=len32_spec e2
 rw [e]
 simp only
 rw [wi64 (x:=32 - (k:Int)) (by omega) (by omega)]
 rw [show (32 - (k:Int)) = ((32 - k:Nat):Int) by omega,min3]
 have hz:(a ^^^ b) / 2 ^ k = 0 → a / 2 ^ k = b / 2 ^ k:=by
  rw [xor_div]
  intro h
  exact xor_zero h
 have hk:=hz k2
 have hne:a ^^^ b ≠ 0:=by
  intro h0
  have:a = b:=xor_zero h0
  subst this
  rcases Nat.le_total n m with h | h
  ·exact h1 ⟨a,n,a,m,hp,hq,h,rfl⟩
  ·exact h2 ⟨a,m,a,n,hq,hp,h,rfl⟩
 obtain ⟨k4,k5⟩:=k3 hne
 have hb:a / 2 ^ (k - 1) % 2 ≠ b / 2 ^ (k - 1) % 2:=by
  intro h
  have e3:a / 2 ^ (k - 1) = b / 2 ^ (k - 1):=by
   have e4:k = (k - 1) + 1:=by omega
   rw [e4,div_half,div_half] at hk
   omega
  rw [xor_div,e3,Nat.xor_self] at k5
  cases k5
 have hkn:32 - k < n:=by
  apply Nat.lt_of_not_le
  intro h
  have e3:=div_more hk (l:=32 - n) (by omega)
  rcases Nat.le_total n m with hm | hm
  ·exact h1 ⟨a,n,b,m,hp,hq,hm,e3.symm⟩
  ·exact h2 ⟨b,m,a,n,hq,hp,hm,div_more hk (l:=32 - m) (by omega)⟩
 have hkm:32 - k < m:=by
  apply Nat.lt_of_not_le
  intro h
  have e3:=div_more hk (l:=32 - m) (by omega)
  rcases Nat.le_total n m with hm | hm
  ·exact h1 ⟨a,n,b,m,hp,hq,hm,(div_more hk (l:=32 - n) (by omega)).symm⟩
  ·exact h2 ⟨b,m,a,n,hq,hp,hm,e3⟩
 have hmin:min (min n m) (32 - k) = 32 - k:=by omega
 rw [hmin]
 refine ⟨_,rfl,?_⟩
 unfold F44
 rw [mask_eq (by omega),and_mask hp.lt (by omega)]
 have ek:32 - (32 - k) = k:=by omega
 rw [ek]
 have hc:PV ⟨((a / 2 ^ k * 2 ^ k:Nat):Int),((32 - k:Nat):Int)⟩ (a / 2 ^ k * 2 ^ k) (32 - k) :=
  ⟨rfl,rfl,Nat.lt_of_le_of_lt (Nat.div_mul_le_self _ _) hp.lt,by omega,by rw [ek]; exact Nat.mul_mod_left _ _⟩
 have hdm:a / 2 ^ k * 2 ^ k / 2 ^ k = a / 2 ^ k:=Nat.mul_div_cancel _ (Nat.two_pow_pos _)
 refine ⟨⟨_,_,hc⟩,⟨_,_,a,n,hc,hp,by omega,by rw [ek,hdm]⟩,⟨_,_,b,m,hc,hq,by omega,by rw [ek,hdm,hk]⟩,?_,?_,?_⟩
 ·have:=hp.hN; simp only; omega
 ·have:=hq.hN; simp only; omega
 ·rw [side_eq (n:=32 - k) rfl (by omega) hp.hA hp.lt,side_eq (n:=32 - k) rfl (by omega) hq.hA hq.lt]
  rw [show 31 - (32 - k) = k - 1 by omega]
  intro h
  exact hb (by exact_mod_cast h)
theorem Un.common {x p q c:qk} {s:Int} (hp:Un x s p) (hq:Un x s q) (h1:C c p) (h2:C c q) (hd:F60 c p ≠ F60 c q):Un x s c:=by
 have hx:=hp.c.left
 have hlt:x.N < c.N:=by
  apply Int.lt_of_not_ge
  intro hge
  have hcx:C c x:=h1.comp hp.c hge
  by_cases e:c.N = x.N
  ·have:=hcx.anti e
   subst this
   rw [hp.sd,hq.sd] at hd
   exact hd rfl
  ·have hl:c.N < x.N:=by omega
   rw [← side_same h1.left hp.c hl,← side_same h1.left hq.c hl] at hd
   exact hd rfl
 exact ⟨hp.c.comp h1 (by omega),hlt,(side_same hx h1 hlt).trans hp.sd⟩
end Go.Proofs.YtakallenldpkiaaGreatDoor.Abs
end
section
set_option linter.unusedVariables false
set_option linter.unusedSimpArgs false
namespace Go.Proofs.YtakallenldpkiaaGreatDoor.Abs
open Go
inductive Tr where
 | nil
 | nd (i:Nat) (p:qk) (v:Int) (f:Bool) (l r:Tr)
namespace Tr
def root:Tr → Int
 | nil=>-1
 | nd i _ _ _ _ _=>i
def ids:Tr → List Nat
 | nil=>[]
 | nd i _ _ _ l r=>i :: (l.ids ++ r.ids)
def pfx:Tr → List qk
 | nil=>[]
 | nd _ p _ _ l r=>p :: (l.pfx ++ r.pfx)
def ents:Tr → List TEntry
 | nil=>[]
 | nd _ p v f l r=>(bif f then [⟨p,v⟩] else []) ++ (l.ents ++ r.ents)
def ht:Tr → Nat
 | nil=>0
 | nd _ _ _ _ l r=>max l.ht r.ht + 1
def Ok (L:List TNode):Tr → Prop
 | nil=>True
 | nd i p v f l r=>L[i]? = some ⟨p,v,f,⟨l.root,r.root⟩⟩ ∧ l.Ok L ∧ r.Ok L
def Wf:Tr → Prop
 | nil=>True
 | nd _ p _ f l r=>V p ∧ l.Wf ∧ r.Wf ∧ (∀ q ∈ l.pfx,Un p 0 q) ∧ (∀ q ∈ r.pfx,Un p 1 q) ∧ (f = false → l ≠ nil ∧ r ≠ nil)
end Tr
theorem root_ge (t:Tr) : -1 ≤ t.root:=by cases t <;> simp only [obS,Tr.root] <;> omega
theorem ok_lt {L:List TNode} : ∀ {t:Tr},t.Ok L → ∀ j ∈ t.ids,j < L.length
 | .nil,_,j,hj=>by cases hj
 | .nd i p v f l r,h,j,hj=>by
  obtain ⟨h1,h2,h3⟩:=h
  simp only [obS,Tr.ids,List.mem_cons,List.mem_append] at hj
  rcases hj with rfl | hj | hj
  ·exact (List.getElem?_eq_some_iff.1 h1).1
  ·exact ok_lt h2 j hj
  ·exact ok_lt h3 j hj
theorem ok_frame {L L':List TNode} : ∀ {t:Tr},(∀ j ∈ t.ids,L'[j]? = L[j]?) → t.Ok L → t.Ok L'
 | .nil,_,_=>trivial
 | .nd i p v f l r,h,⟨h1,h2,h3⟩=>by
  simp only [obS,Tr.ids,List.mem_cons,List.mem_append] at h
  exact ⟨(h i (.inl rfl)).trans h1,ok_frame (fun j hj=>h j (.inr (.inl hj))) h2,ok_frame (fun j hj=>h j (.inr (.inr hj))) h3⟩
def fr (F:List Int):List Nat:=F.map Int.toNat
structure FO (L:List TNode) (F:List Int):Prop where
 nd:(fr F).Nodup
 fv : ∀ f ∈ F,0 ≤ f ∧ f.toNat < L.length
structure TInv (L:List TNode) (F:List Int) (t:Tr):Prop where
 ok:t.Ok L
 idn:t.ids.Nodup
 dis : ∀ j ∈ t.ids,j ∉ fr F
 fo:FO L F
structure Mm (b:Nat) (L:List TNode) (F:List Int) (t:Tr) (L':List TNode) (F':List Int) (t':Tr):Prop where
 inv:TInv L' F' t'
 lo:L.length ≤ L'.length
 sz:L'.length + F'.length ≤ L.length + F.length + b
 new : ∀ j ∈ t'.ids,j ∈ t.ids ∨ j ∈ fr F ∨ L.length ≤ j
 sub : ∀ k ∈ fr F',k ∈ fr F ∨ k ∈ t.ids
 keep : ∀ k,k < L.length → k ∉ t.ids → k ∉ fr F → L'[k]? = L[k]?
structure AddR (L:List TNode) (F:List Int) (L':List TNode) (F':List Int) (j:Nat) (x:TNode):Prop where
 at_:L'[j]? = some x
 lo:L.length ≤ L'.length
 sz:L'.length + F'.length ≤ L.length + F.length + 1
 new:j ∈ fr F ∨ L.length ≤ j
 sub : ∀ k ∈ fr F',k ∈ fr F
 out:j ∉ fr F'
 fo:FO L' F'
 keep : ∀ k,k < L.length → k ≠ j → L'[k]? = L[k]?
theorem inv_nil {L:List TNode} {F:List Int} (h:FO L F):TInv L F .nil:=⟨trivial,List.nodup_nil,fun _ h=>by simp [Tr.ids] at h,h⟩
theorem add_spec (L:List TNode) (F:List Int) (ro n:Int) (x:TNode) (h:FO L F) (hs:L.length + F.length < 1099511627776) :
  ∃ (j:Nat) (L':List TNode) (F':List Int),F58 ⟨L,F,ro,n⟩ x = some ((j:Int),⟨L',F',ro,n⟩) ∧ AddR L F L' F' j x:=by
 unfold F58
 by_cases hF:F = []
 ·subst hF
  have e1 : ¬ ((0:Int) < (([]:List Int).length:Int)):=by simp
  have e2:L.length < 1099511627776:=by omega
  simp only [obS,e1,e2,decide_true,decide_false,cond_true,cond_false]
  refine ⟨L.length,L ++ [x],[],?_,?_⟩
  ·rw [wi64 (by simp only [obS,List.length_append,List.length_cons,List.length_nil]; omega) (by simp only [obS,List.length_append,List.length_cons,List.length_nil]; omega)]
   simp
  ·refine ⟨by simp,by simp,by simp,.inr (Nat.le_refl _),fun k hk=>hk,by simp [fr],⟨h.nd,fun f hf=>by cases hf⟩,fun k hk hj=>?_⟩
   rw [List.getElem?_append_left hk]
 ·have hl:0 < F.length:=List.length_pos_iff.2 hF
  have e1:(0:Int) < (F.length:Int):=by omega
  have ew:IntKind.i64.wrap ((F.length:Int) - 1) = ((F.length - 1:Nat):Int):=by rw [wi64 (by omega) (by omega)]; omega
  obtain ⟨G,y,rfl⟩ : ∃ G y,F = G ++ [y]:=⟨F.dropLast,F.getLast hF,(List.dropLast_concat_getLast hF).symm⟩
  simp only [obS,e1,decide_true,cond_true,ew]
  have el:(G ++ [y]).length - 1 = G.length:=by simp
  have eg:getI (G ++ [y]) (((G ++ [y]).length - 1:Nat):Int) = some y:=by
   unfold getI
   rw [if_pos (by omega),el]
   simp
  have e2:(0:Int) ≤ (((G ++ [y]).length - 1:Nat):Int):=by omega
  have e3:((((G ++ [y]).length - 1:Nat):Int)) ≤ ((G ++ [y]).length:Int):=by omega
  simp only [obS,eg,e2,e3,decide_true,cond_true]
  obtain ⟨hy0,hy1⟩:=h.fv y (by simp)
  have eL:getI L y = some (L[y.toNat]'hy1):=by
   unfold getI
   rw [if_pos hy0,List.getElem?_eq_getElem hy1]
  simp only [obS,eL]
  have et:(G ++ [y]).take (((G ++ [y]).length - 1:Nat):Int).toNat = G:=by
   rw [show ((((G ++ [y]).length - 1:Nat):Int)).toNat = G.length by omega]
   simp
  rw [et]
  have hnd:=h.nd
  simp only [obS,fr,List.map_append,List.map_cons,List.map_nil,List.nodup_append,List.mem_singleton] at hnd
  refine ⟨y.toNat,L.set y.toNat x,G,?_,?_⟩
  ·rw [Int.toNat_of_nonneg hy0]
  ·refine ⟨by simp [hy1],by simp,by simp; omega,.inl (by simp [fr]),fun k hk=>by simp only [obS,fr,List.map_append,List.mem_append]; exact .inl hk,fun hk=>?_,⟨hnd.1,fun f hf=>?_⟩,fun k hk hj=>?_⟩
   ·exact hnd.2.2 _ hk _ rfl rfl
   ·rw [List.length_set]; exact h.fv f (by simp [hf])
   ·rw [List.getElem?_set_ne (Ne.symm hj)]
structure Two (b:Nat) (L:List TNode) (F:List Int) (t:Tr) (L1:List TNode) (F1:List Int) (a c:Tr):Prop where
 ia:TInv L1 F1 a
 ic:TInv L1 F1 c
 ap : ∀ j ∈ a.ids,j ∉ c.ids
 lo:L.length ≤ L1.length
 sz:L1.length + F1.length ≤ L.length + F.length + b
 new : ∀ j,j ∈ a.ids ∨ j ∈ c.ids → j ∈ t.ids ∨ j ∈ fr F ∨ L.length ≤ j
 sub : ∀ k ∈ fr F1,k ∈ fr F ∨ k ∈ t.ids
 keep : ∀ k,k < L.length → k ∉ t.ids → k ∉ fr F → L1[k]? = L[k]?
theorem Two.swap {b:Nat} {L:List TNode} {F:List Int} {t:Tr} {L1:List TNode} {F1:List Int} {a c:Tr} (h:Two b L F t L1 F1 a c):Two b L F t L1 F1 c a :=
 ⟨h.ic,h.ia,fun j hj hk=>h.ap j hk hj,h.lo,h.sz,fun j hj=>h.new j hj.symm,h.sub,h.keep⟩
theorem Two.add {b:Nat} {L:List TNode} {F:List Int} {t:Tr} {L1:List TNode} {F1:List Int} {a c:Tr} (h:Two b L F t L1 F1 a c)
  {L2:List TNode} {F2:List Int} {j:Nat} {p:qk} {v:Int} {f:Bool} (k:AddR L1 F1 L2 F2 j ⟨p,v,f,⟨a.root,c.root⟩⟩):Mm (b + 1) L F t L2 F2 (.nd j p v f a c):=by
 have hj : ∀ i,i ∈ a.ids ∨ i ∈ c.ids → i ≠ j ∧ i < L1.length:=by
  intro i hi
  have hlt:i < L1.length:=hi.elim (ok_lt h.ia.ok i) (ok_lt h.ic.ok i)
  refine ⟨?_,hlt⟩
  rintro rfl
  rcases k.new with hn | hn
  ·exact hi.elim (fun q=>h.ia.dis _ q hn) (fun q=>h.ic.dis _ q hn)
  ·omega
 have oa:a.Ok L2:=ok_frame (fun i hi=>k.keep i (hj i (.inl hi)).2 (hj i (.inl hi)).1) h.ia.ok
 have oc:c.Ok L2:=ok_frame (fun i hi=>k.keep i (hj i (.inr hi)).2 (hj i (.inr hi)).1) h.ic.ok
 refine ⟨⟨⟨k.at_,oa,oc⟩,?_,?_,k.fo⟩,Nat.le_trans h.lo k.lo,by have:=k.sz; have:=h.sz; omega,?_,fun i hi=>h.sub i (k.sub i hi),?_⟩
 ·simp only [obS,Tr.ids,List.nodup_cons,List.mem_append,List.nodup_append]
  refine ⟨fun hi=>(hj _ hi).1 rfl,h.ia.idn,h.ic.idn,fun x hx y hy e=>?_⟩
  subst e
  exact h.ap x hx hy
 ·intro i hi
  simp only [obS,Tr.ids,List.mem_cons,List.mem_append] at hi
  rcases hi with rfl | hi | hi
  ·exact k.out
  ·exact fun q=>h.ia.dis i hi (k.sub i q)
  ·exact fun q=>h.ic.dis i hi (k.sub i q)
 ·intro i hi
  simp only [obS,Tr.ids,List.mem_cons,List.mem_append] at hi
  rcases hi with rfl | hi
  ·rcases k.new with hn | hn
   ·rcases h.sub _ hn with q | q
    ·exact .inr (.inl q)
    ·exact .inl q
   ·exact .inr (.inr (Nat.le_trans h.lo hn))
  ·exact h.new i hi
 ·intro i h1 h2 h3
  have hij:i ≠ j:=by
   rintro rfl
   rcases k.new with hn | hn
   ·rcases h.sub _ hn with q | q
    ·exact h3 q
    ·exact h2 q
   ·have:=h.lo; omega
  rw [k.keep i (Nat.lt_of_lt_of_le h1 h.lo) hij,h.keep i h1 h2 h3]
theorem AddR.two {L:List TNode} {F:List Int} {L1:List TNode} {F1:List Int} {j:Nat} {p:qk} {v:Int} {f:Bool} {t:Tr} (h:TInv L F t)
  (k:AddR L F L1 F1 j ⟨p,v,f,⟨-1,-1⟩⟩):Two 1 L F t L1 F1 (.nd j p v f .nil .nil) t:=by
 have hj : ∀ i ∈ t.ids,i ≠ j:=by
  rintro i hi rfl
  rcases k.new with hn | hn
  ·exact h.dis _ hi hn
  ·have:=ok_lt h.ok _ hi; omega
 refine ⟨⟨⟨k.at_,trivial,trivial⟩,by simp [Tr.ids],?_,k.fo⟩,⟨ok_frame (fun i hi=>k.keep i (ok_lt h.ok i hi) (hj i hi)) h.ok,h.idn,fun i hi q=>h.dis i hi (k.sub i q),k.fo⟩,?_,k.lo,k.sz,?_,fun i hi=>.inl (k.sub i hi),?_⟩
 ·intro i hi
  simp only [obS,Tr.ids,List.append_nil,List.mem_singleton] at hi
  subst hi; exact k.out
 ·intro i hi
  simp only [obS,Tr.ids,List.append_nil,List.mem_singleton] at hi
  subst hi
  exact fun q=>hj _ q rfl
 ·intro i hi
  rcases hi with hi | hi
  ·simp only [obS,Tr.ids,List.append_nil,List.mem_singleton] at hi
   subst hi
   exact k.new.elim (fun q=>.inr (.inl q)) (fun q=>.inr (.inr q))
  ·exact .inl hi
 ·intro i h1 h2 h3
  refine k.keep i h1 ?_
  rintro rfl
  rcases k.new with hn | hn
  ·exact h3 hn
  ·omega
theorem two_nil {L:List TNode} {F:List Int} {t:Tr} (h:TInv L F t):Two 0 L F t L F t .nil :=
 ⟨h,inv_nil h.fo,fun j _=>by simp [Tr.ids],Nat.le_refl _,by omega,fun j hj=>hj.elim .inl (fun q=>by simp [Tr.ids] at q),fun k hk=>.inl hk,fun _ _ _ _=>rfl⟩
theorem Mm.refl {L:List TNode} {F:List Int} {t:Tr} (h:TInv L F t):Mm 0 L F t L F t :=
 ⟨h,Nat.le_refl _,by omega,fun j hj=>.inl hj,fun k hk=>.inl hk,fun _ _ _ _=>rfl⟩
theorem TInv.left {L:List TNode} {F:List Int} {i:Nat} {p:qk} {v:Int} {f:Bool} {l r:Tr} (h:TInv L F (.nd i p v f l r)):TInv L F l:=by
 have hn:=h.idn
 simp only [obS,Tr.ids,List.nodup_cons,List.nodup_append] at hn
 exact ⟨h.ok.2.1,hn.2.1,fun j hj=>h.dis j (by simp [Tr.ids,hj]),h.fo⟩
theorem TInv.right {L:List TNode} {F:List Int} {i:Nat} {p:qk} {v:Int} {f:Bool} {l r:Tr} (h:TInv L F (.nd i p v f l r)):TInv L F r:=by
 have hn:=h.idn
 simp only [obS,Tr.ids,List.nodup_cons,List.nodup_append] at hn
 exact ⟨h.ok.2.2,hn.2.2.1,fun j hj=>h.dis j (by simp [Tr.ids,hj]),h.fo⟩
theorem Mm.kid {b:Nat} {L:List TNode} {F:List Int} {L1:List TNode} {F1:List Int} {i:Nat} {p p':qk} {v v':Int} {f f':Bool} {l r a c:Tr} {t t':Tr}
  (h:TInv L F (.nd i p v f l r)) (hc:(t = l ∧ c = r ∧ a = t') ∨ (t = r ∧ a = l ∧ c = t')) (k:Mm b L F t L1 F1 t') :
  L1[i]? = L[i]? ∧ Mm b L F (.nd i p v f l r) (L1.set i ⟨p',v',f',⟨a.root,c.root⟩⟩) F1 (.nd i p' v' f' a c):=by
 have hn:=h.idn
 simp only [obS,Tr.ids,List.nodup_cons,List.nodup_append,List.mem_append,not_or] at hn
 obtain ⟨⟨hil,hir⟩,hnl,hnr,hlr⟩:=hn
 have hi:i < L.length:=ok_lt h.ok i (by simp [Tr.ids])
 have hiF:i ∉ fr F:=h.dis i (by simp [Tr.ids])
 have hit:i ∉ t.ids:=by rcases hc with ⟨rfl,_,_⟩ | ⟨rfl,_,_⟩ <;> assumption
 have hi1:L1[i]? = L[i]?:=k.keep i hi hit hiF
 have hiL:i < L1.length:=Nat.lt_of_lt_of_le hi k.lo
 refine ⟨hi1,?_⟩
 have hid:i ∉ t'.ids:=by
  intro q
  rcases k.new i q with q | q | q
  ·exact hit q
  ·exact hiF q
  ·omega
 have other : ∀ o:Tr,TInv L F o → (∀ j ∈ o.ids,j ∉ t.ids) → i ∉ o.ids → o.Ok (L1.set i ⟨p',v',f',⟨a.root,c.root⟩⟩) ∧ (∀ j ∈ o.ids,j ∉ t'.ids) ∧ (∀ j ∈ o.ids,j ∉ fr F1):=by
  intro o ho hot hio
  refine ⟨ok_frame (fun j hj=>?_) ho.ok,fun j hj q=>?_,fun j hj q=>?_⟩
  ·rw [List.getElem?_set_ne (by rintro rfl; exact hio hj)]
   exact k.keep j (ok_lt ho.ok j hj) (hot j hj) (ho.dis j hj)
  ·rcases k.new j q with q | q | q
   ·exact hot j hj q
   ·exact ho.dis j hj q
   ·have:=ok_lt ho.ok j hj; omega
  ·rcases k.sub j q with q | q
   ·exact ho.dis j hj q
   ·exact hot j hj q
 have ot':t'.Ok (L1.set i ⟨p',v',f',⟨a.root,c.root⟩⟩):=ok_frame (fun j hj=>by rw [List.getElem?_set_ne (by rintro rfl; exact hid hj)]) k.inv.ok
 have hset:(L1.set i (⟨p',v',f',⟨a.root,c.root⟩⟩ : TNode))[i]? = some ⟨p',v',f',⟨a.root,c.root⟩⟩:=by simp [hiL]
 have hiF1:i ∉ fr F1:=by
  intro q
  rcases k.sub i q with q | q
  ·exact hiF q
  ·exact hit q
 have fo:FO (L1.set i ⟨p',v',f',⟨a.root,c.root⟩⟩) F1:=⟨k.inv.fo.nd,fun g hg=>by rw [List.length_set]; exact k.inv.fo.fv g hg⟩
 have hsub : ∀ j ∈ fr F1,j ∈ fr F ∨ j ∈ (Tr.nd i p v f l r).ids:=by
  intro j hj
  rcases k.sub j hj with q | q
  ·exact .inl q
  ·right
   simp only [obS,Tr.ids,List.mem_cons,List.mem_append]
   rcases hc with ⟨rfl,_,_⟩ | ⟨rfl,_,_⟩
   ·exact .inr (.inl q)
   ·exact .inr (.inr q)
 have hkeep : ∀ j,j < L.length → j ∉ (Tr.nd i p v f l r).ids → j ∉ fr F → (L1.set i ⟨p',v',f',⟨a.root,c.root⟩⟩)[j]? = L[j]?:=by
  intro j h1 h2 h3
  simp only [obS,Tr.ids,List.mem_cons,List.mem_append,not_or] at h2
  rw [List.getElem?_set_ne (Ne.symm h2.1)]
  refine k.keep j h1 ?_ h3
  rcases hc with ⟨rfl,_,_⟩ | ⟨rfl,_,_⟩
  ·exact h2.2.1
  ·exact h2.2.2
 have hnew : ∀ j ∈ t'.ids,j ∈ (Tr.nd i p v f l r).ids ∨ j ∈ fr F ∨ L.length ≤ j:=by
  intro j hj
  rcases k.new j hj with q | q
  ·left
   simp only [obS,Tr.ids,List.mem_cons,List.mem_append]
   rcases hc with ⟨rfl,_,_⟩ | ⟨rfl,_,_⟩
   ·exact .inr (.inl q)
   ·exact .inr (.inr q)
  ·exact .inr q
 rcases hc with ⟨rfl,rfl,rfl⟩ | ⟨rfl,rfl,rfl⟩
 ·obtain ⟨oo,oa,of⟩:=other c h.right (fun j hj q=>hlr j q j hj rfl) hir
  refine ⟨⟨⟨hset,ot',oo⟩,?_,?_,fo⟩,by rw [List.length_set]; exact k.lo,by rw [List.length_set]; exact k.sz,?_,hsub,hkeep⟩
  ·simp only [obS,Tr.ids,List.nodup_cons,List.nodup_append,List.mem_append,not_or]
   exact ⟨⟨hid,hir⟩,k.inv.idn,hnr,fun x hx y hy e=>oa y hy (e ▸ hx)⟩
  ·intro j hj
   simp only [obS,Tr.ids,List.mem_cons,List.mem_append] at hj
   rcases hj with rfl | hj | hj
   ·exact hiF1
   ·exact k.inv.dis j hj
   ·exact of j hj
  ·intro j hj
   simp only [obS,Tr.ids,List.mem_cons,List.mem_append] at hj
   rcases hj with rfl | hj | hj
   ·exact .inl (by simp [Tr.ids])
   ·exact hnew j hj
   ·exact .inl (by simp [Tr.ids,hj])
 ·obtain ⟨oo,oa,of⟩:=other a h.left (fun j hj q=>hlr j hj j q rfl) hil
  refine ⟨⟨⟨hset,oo,ot'⟩,?_,?_,fo⟩,by rw [List.length_set]; exact k.lo,by rw [List.length_set]; exact k.sz,?_,hsub,hkeep⟩
  ·simp only [obS,Tr.ids,List.nodup_cons,List.nodup_append,List.mem_append,not_or]
   exact ⟨⟨hil,hid⟩,hnl,k.inv.idn,fun x hx y hy e=>oa x hx (e ▸ hy)⟩
  ·intro j hj
   simp only [obS,Tr.ids,List.mem_cons,List.mem_append] at hj
   rcases hj with rfl | hj | hj
   ·exact hiF1
   ·exact of j hj
   ·exact k.inv.dis j hj
  ·intro j hj
   simp only [obS,Tr.ids,List.mem_cons,List.mem_append] at hj
   rcases hj with rfl | hj | hj
   ·exact .inl (by simp [Tr.ids])
   ·exact .inl (by simp [Tr.ids,hj])
   ·exact hnew j hj
theorem Mm.drop {b:Nat} {L:List TNode} {F:List Int} {L1:List TNode} {F1:List Int} {i:Nat} {p:qk} {v:Int} {f:Bool} {a c:Tr} {t:Tr}
  (k:Mm b L F t L1 F1 (.nd i p v f a c)) (hit:i ∈ t.ids):Mm (b + 1) L F t L1 (F1 ++ [(i:Int)]) a ∧ Mm (b + 1) L F t L1 (F1 ++ [(i:Int)]) c:=by
 have hn:=k.inv.idn
 simp only [obS,Tr.ids,List.nodup_cons,List.nodup_append,List.mem_append,not_or] at hn
 obtain ⟨⟨hil,hir⟩,hnl,hnr,hlr⟩:=hn
 have e:fr (F1 ++ [(i:Int)]) = fr F1 ++ [i]:=by simp [fr]
 have fo:FO L1 (F1 ++ [(i:Int)]):=by
  refine ⟨?_,fun g hg=>?_⟩
  ·rw [e,List.nodup_append]
   refine ⟨k.inv.fo.nd,by simp,fun x hx y hy q=>?_⟩
   simp only [obS,List.mem_singleton] at hy
   subst q hy
   exact k.inv.dis _ (by simp [Tr.ids]) hx
  ·rcases List.mem_append.1 hg with q | q
   ·exact k.inv.fo.fv g q
   ·simp only [obS,List.mem_singleton] at q
    subst q
    have:=ok_lt k.inv.ok i (by simp [Tr.ids])
    omega
 have gen : ∀ o:Tr,TInv L1 F1 o → (∀ j ∈ o.ids,j ∈ (Tr.nd i p v f a c).ids) → i ∉ o.ids → Mm (b + 1) L F t L1 (F1 ++ [(i:Int)]) o:=by
  intro o ho hs hio
  refine ⟨⟨ho.ok,ho.idn,fun j hj q=>?_,fo⟩,k.lo,by have:=k.sz; simp only [obS,List.length_append,List.length_cons,List.length_nil]; omega,fun j hj=>k.new j (hs j hj),fun j hj=>?_,k.keep⟩
  ·rw [e,List.mem_append,List.mem_singleton] at q
   rcases q with q | rfl
   ·exact ho.dis j hj q
   ·exact hio hj
  ·rw [e,List.mem_append,List.mem_singleton] at hj
   rcases hj with q | rfl
   ·exact k.sub j q
   ·exact .inr hit
 exact ⟨gen a k.inv.left (fun j hj=>by simp [Tr.ids,hj]) hil,gen c k.inv.right (fun j hj=>by simp [Tr.ids,hj]) hir⟩
theorem Mm.more {b b':Nat} {L:List TNode} {F:List Int} {t:Tr} {L':List TNode} {F':List Int} {t':Tr} (h:Mm b L F t L' F' t') (hb:b ≤ b'):Mm b' L F t L' F' t' :=
 ⟨h.inv,h.lo,by have:=h.sz; omega,h.new,h.sub,h.keep⟩
end Go.Proofs.YtakallenldpkiaaGreatDoor.Abs
end
section
set_option linter.unusedVariables false
set_option linter.unusedSimpArgs false
namespace Go.Proofs.YtakallenldpkiaaGreatDoor.Abs
open Go
theorem peq (a b:qk):(decide (a.A = b.A) && (decide (a.N = b.N) && true)) = decide (a = b):=by
 rw [Bool.eq_iff_iff]
 cases a; cases b
 simp
def insE (p:qk) (v:Int):List TEntry → List TEntry
 | []=>[⟨p,v⟩]
 | x :: l=>if x.P = p then ⟨p,v⟩ :: l else if Fo29_crossroadsref03_Less p x.P = true then ⟨p,v⟩ :: x :: l else x :: insE p v l
theorem insE_lt {p:qk} {v:Int} {B:List TEntry} : ∀ {A:List TEntry},(∀ x ∈ A,Ls x.P p) → insE p v (A ++ B) = A ++ insE p v B
 | [],_=>rfl
 | x :: A,h=>by
  have h1:=h x (by simp)
  rw [List.cons_append,insE,if_neg h1.ne,if_neg (fun q=>h1.asymm (less_Ls.1 q)),insE_lt (fun y hy=>h y (by simp [hy])),List.cons_append]
theorem insE_gt {p:qk} {v:Int} {B:List TEntry} (hB : ∀ x ∈ B,Ls p x.P) : ∀ {A:List TEntry},insE p v (A ++ B) = insE p v A ++ B
 | []=>by
  cases B with
  | nil=>rfl
  | cons b B =>
   have h1:=hB b (by simp)
   have e:insE p v (b :: B) = ⟨p,v⟩ :: b :: B:=by rw [insE,if_neg (Ne.symm h1.ne),if_pos (less_Ls.2 h1)]
   exact e
 | x :: A=>by
  rw [List.cons_append,insE,insE]
  split
  ·rfl
  ·split
   ·rfl
   ·rw [insE_gt hB (A:=A),List.cons_append]
theorem insE_all_gt {p:qk} {v:Int} {B:List TEntry} (hB : ∀ x ∈ B,Ls p x.P):insE p v B = ⟨p,v⟩ :: B:=insE_gt (A:=[]) hB
theorem insE_all_lt {p:qk} {v:Int} {A:List TEntry} (h : ∀ x ∈ A,Ls x.P p):insE p v A = A ++ [⟨p,v⟩]:=by
 have:=insE_lt (v:=v) (B:=[]) h
 rwa [List.append_nil] at this
theorem ents_pfx : ∀ {t:Tr} {e:TEntry},e ∈ t.ents → e.P ∈ t.pfx
 | .nil,e,h=>by cases h
 | .nd i p v f l r,e,h=>by
  simp only [obS,Tr.ents,Tr.pfx,List.mem_append,List.mem_cons] at *
  rcases h with h | h | h
  ·cases f
   ·cases h
   ·simp only [obS,cond_true,List.mem_singleton] at h
    subst h; exact .inl rfl
  ·exact .inr (.inl (ents_pfx h))
  ·exact .inr (.inr (ents_pfx h))
theorem wf_V : ∀ {t:Tr},t.Wf → ∀ q ∈ t.pfx,V q
 | .nil,_,q,h=>by cases h
 | .nd i p v f l r,⟨h1,h2,h3,_⟩,q,h=>by
  simp only [obS,Tr.pfx,List.mem_append,List.mem_cons] at h
  rcases h with rfl | h | h
  ·exact h1
  ·exact wf_V h2 q h
  ·exact wf_V h3 q h
theorem wf_C {i:Nat} {p:qk} {v:Int} {f:Bool} {l r:Tr} (h:(Tr.nd i p v f l r).Wf) : ∀ q ∈ (Tr.nd i p v f l r).pfx,C p q:=by
 intro q hq
 simp only [obS,Tr.pfx,List.mem_append,List.mem_cons] at hq
 rcases hq with rfl | hq | hq
 ·exact .refl h.1
 ·exact (h.2.2.2.1 q hq).c
 ·exact (h.2.2.2.2.1 q hq).c
theorem ht_le : ∀ {t:Tr} {k:Nat},t.Wf → k ≤ 33 → (∀ q ∈ t.pfx,(k:Int) ≤ q.N) → k + t.ht ≤ 33
 | .nil,k,_,hk,_=>by simp [Tr.ht,hk]
 | .nd i p v f l r,k,⟨h1,h2,h3,h4,h5,_⟩,hk,h=>by
  have hp:=h p (by simp [Tr.pfx])
  have:=h1.le
  have g2:=ht_le (k:=k + 1) h2 (by omega) (fun q hq=>by have:=(h4 q hq).lt; omega)
  have g3:=ht_le (k:=k + 1) h3 (by omega) (fun q hq=>by have:=(h5 q hq).lt; omega)
  simp only [obS,Tr.ht]
  omega
theorem ht_33 {t:Tr} (h:t.Wf):t.ht ≤ 33:=by
 have:=ht_le (k:=0) h (by omega) (fun q hq=>by have:=(wf_V h q hq).le; omega)
 omega
def Srt (l:List TEntry):Prop:=l.Pairwise fun a b=>Ls a.P b.P
theorem wf_srt : ∀ {t:Tr},t.Wf → Srt t.ents
 | .nil,_=>List.Pairwise.nil
 | .nd i p v f l r,⟨h1,h2,h3,h4,h5,_⟩=>by
  have hc : ∀ q ∈ l.pfx ++ r.pfx,C p q ∧ p ≠ q:=by
   intro q hq
   rcases List.mem_append.1 hq with hq | hq
   ·exact ⟨(h4 q hq).c,fun e=>by have:=(h4 q hq).lt; rw [e] at this; omega⟩
   ·exact ⟨(h5 q hq).c,fun e=>by have:=(h5 q hq).lt; rw [e] at this; omega⟩
  unfold Srt
  simp only [obS,Tr.ents]
  rw [List.pairwise_append,List.pairwise_append]
  refine ⟨by cases f <;> simp,⟨wf_srt h2,wf_srt h3,fun a ha b hb=>(h4 _ (ents_pfx ha)).ls (h5 _ (ents_pfx hb))⟩,fun a ha b hb=>?_⟩
  cases f
  ·cases ha
  ·simp only [obS,cond_true,List.mem_singleton] at ha
   subst ha
   have:b.P ∈ l.pfx ++ r.pfx:=by
    rcases List.mem_append.1 hb with hb | hb
    ·exact List.mem_append.2 (.inl (ents_pfx hb))
    ·exact List.mem_append.2 (.inr (ents_pfx hb))
   exact (hc _ this).1.ls (hc _ this).2
def hasP (p:qk) (l:List TEntry):Bool:=l.any fun x=>decide (x.P = p)
theorem hasP_append {p:qk} {A B:List TEntry}:hasP p (A ++ B) = (hasP p A || hasP p B):=by simp [hasP]
theorem hasP_false {p:qk} {A:List TEntry} (h : ∀ x ∈ A,x.P ≠ p):hasP p A = false:=by
 unfold hasP
 rw [List.any_eq_false]
 intro x hx
 simpa using h x hx
structure Lg (p:qk) (v:Int) (t t':Tr):Prop where
 wf:t'.Wf
 ents:t'.ents = insE p v t.ents
 un : ∀ x s,(∀ q ∈ t.pfx,Un x s q) → Un x s p → ∀ q ∈ t'.pfx,Un x s q
 nn:t' ≠ .nil
theorem leaf_wf {j:Nat} {p:qk} {v:Int} (h:V p):(Tr.nd j p v true .nil .nil).Wf :=
 ⟨h,trivial,trivial,(fun _ h=>by cases h),(fun _ h=>by cases h),fun h=>by cases h⟩
theorem getI_nat {α:Type} {L:List α} {i:Nat} {x:α} (h:L[i]? = some x):getI L (i:Int) = some x:=by
 unfold getI
 rw [if_pos (by omega)]
 simpa using h
theorem root_nil:Tr.root .nil = -1:=rfl
theorem root_nd {i:Nat} {p:qk} {v:Int} {f:Bool} {l r:Tr}:Tr.root (.nd i p v f l r) = i:=rfl
theorem nat_ne {i:Nat} : ¬ ((i:Int) = -1):=by omega
set_option maxHeartbeats 1000000 in
theorem put_spec {p:qk} {v:Int} (hp:V p) : ∀ (t:Tr) (fuel:Nat) (L:List TNode) (F:List Int) (ro n:Int),t.ht < fuel → TInv L F t → t.Wf → L.length + F.length + 2 < 1099511627776 →
  ∃ L' F' t',F45 fuel ⟨L,F,ro,n⟩ t.root p v = some (t'.root,⟨L',F',ro,if hasP p t.ents = true then n else IntKind.i64.wrap (n + 1)⟩) ∧ Mm 2 L F t L' F' t' ∧ Lg p v t t'
 | .nil,0,_,_,_,_,h,_,_,_=>absurd h (by omega)
 | .nil,fuel + 1,L,F,ro,n,hf,hi,hw,hs=>by
  unfold F45
  simp only [obS,root_nd,root_nil,decide_true,cond_true]
  obtain ⟨j,L',F',e,ha⟩:=add_spec L F ro (IntKind.i64.wrap (n + 1)) (F59 p v) hi.fo (by omega)
  rw [e]
  refine ⟨L',F',.nd j p v true .nil .nil,rfl,((two_nil hi).add ha).more (by omega),leaf_wf hp,rfl,fun x s _ hu q hq=>?_,fun h=>by cases h⟩
  simp only [obS,Tr.pfx,List.append_nil,List.mem_singleton] at hq
  subst hq; exact hu
 | .nd i x w f l r,0,_,_,_,_,h,_,_,_=>absurd h (by omega)
 | .nd i x w f l r,fuel + 1,L,F,ro,n,hf,hi,hw,hs=>by
  obtain ⟨hx,hl,hr,hul,hur,hff⟩:=hw
  have hwf:(Tr.nd i x w f l r).Wf:=⟨hx,hl,hr,hul,hur,hff⟩
  have hall:=wf_C hwf
  unfold F45
  simp only [obS,root_nd,root_nil,nat_ne,decide_false,cond_false,getI_nat hi.ok.1,peq]
  have hlh:l.ht < fuel:=by simp only [obS,Tr.ht] at hf; omega
  have hrh:r.ht < fuel:=by simp only [obS,Tr.ht] at hf; omega
  have hpre : ∀ q ∈ l.pfx ++ r.pfx,C x q ∧ x ≠ q:=by
   intro q hq
   rcases List.mem_append.1 hq with hq | hq
   ·exact ⟨(hul q hq).c,fun e=>by have:=(hul q hq).lt; rw [e] at this; omega⟩
   ·exact ⟨(hur q hq).c,fun e=>by have:=(hur q hq).lt; rw [e] at this; omega⟩
  have hpe : ∀ e ∈ l.ents ++ r.ents,C x e.P ∧ x ≠ e.P:=by
   intro e he
   refine hpre _ ?_
   rcases List.mem_append.1 he with he | he
   ·exact List.mem_append.2 (.inl (ents_pfx he))
   ·exact List.mem_append.2 (.inr (ents_pfx he))
  by_cases hxp:x = p
  ·subst hxp
   simp only [obS,decide_true,cond_true]
   have hm:=(Mm.kid (p':=x) (v':=v) (f':=true) hi (.inl ⟨rfl,rfl,rfl⟩) (Mm.refl hi.left)).2
   have hgt : ∀ e ∈ l.ents ++ r.ents,Ls x e.P:=fun e he=>(hpe e he).1.ls (hpe e he).2
   have hh:hasP x (Tr.nd i x w f l r).ents = f:=by
    simp only [obS,Tr.ents]
    rw [hasP_append,hasP_false (A:=l.ents ++ r.ents) (fun e he=>Ne.symm (hpe e he).2)]
    cases f <;> simp [hasP]
   have hlg:Lg x v (.nd i x w f l r) (.nd i x v true l r):=by
    refine ⟨⟨hx,hl,hr,hul,hur,fun h=>by cases h⟩,?_,fun y s h _ q hq=>h q hq,fun h=>by cases h⟩
    simp only [obS,Tr.ents,cond_true]
    cases f
    ·simp only [obS,cond_false,List.nil_append]
     rw [insE_all_gt hgt]; rfl
    ·simp only [obS,cond_true,List.singleton_append]
     rw [insE,if_pos rfl]
   rw [hh]
   refine ⟨L.set i ⟨x,v,true,⟨l.root,r.root⟩⟩,F,.nd i x v true l r,?_,hm.more (by omega),hlg⟩
   cases f
   ·simp only [obS,cond_false,List.set_set,Int.toNat_natCast,root_nd,Bool.false_eq_true,if_false]
   ·simp only [obS,cond_true,List.set_set,Int.toNat_natCast,root_nd,if_true]
  ·simp only [obS,hxp,decide_false,cond_false]
   by_cases hc:C x p
   ·have hcb:F51 x p = true:=(covers_C hx.inK hp.inK).2 hc
    have hlt:=hc.lt hxp
    simp only [obS,hcb,cond_true]
    have hxl:Ls x p:=hc.ls hxp
    have hhd : ∀ e ∈ (bif f then [(⟨x,w⟩ : TEntry)] else []),Ls e.P p:=by
     intro e he
     cases f
     ·cases he
     ·simp only [obS,cond_true,List.mem_singleton] at he
      subst he; exact hxl
    have hhp : ∀ B,hasP p ((bif f then [(⟨x,w⟩ : TEntry)] else []) ++ B) = hasP p B:=by
     intro B
     rw [hasP_append,hasP_false (fun e he=>(hhd e he).ne),Bool.false_or]
    rcases side01 x p hx hp (by have:=hp.le; omega) with hsd | hsd
    ·have hu:Un x 0 p:=⟨hc,hlt,hsd⟩
     obtain ⟨L1,F1,l',e,hm,hg⟩:=put_spec hp l fuel L F ro n hlh hi.left hl hs
     obtain ⟨h1,h2⟩:=Mm.kid (p':=x) (v':=w) (f':=f) hi (.inl ⟨rfl,rfl,rfl⟩) hm
     have hsz:=h1.trans hi.ok.1
     simp only [obS,hsd,decide_true,cond_true]
     rw [e]
     simp only [obS,getI_nat hsz]
     have hrp : ∀ e ∈ r.ents,Ls p e.P:=fun e he=>hu.ls (hur _ (ents_pfx he))
     have hhas:hasP p (Tr.nd i x w f l r).ents = hasP p l.ents:=by
      simp only [obS,Tr.ents]
      rw [hhp,hasP_append,hasP_false (A:=r.ents) (fun e he=>Ne.symm (hrp e he).ne),Bool.or_false]
     rw [hhas]
     refine ⟨_,F1,.nd i x w f l' r,rfl,h2,⟨hx,hg.wf,hr,hg.un x 0 hul hu,hur,fun h=>⟨hg.nn,(hff h).2⟩⟩,?_,?_,fun h=>by cases h⟩
     ·simp only [obS,Tr.ents]
      rw [insE_lt hhd,insE_gt hrp,hg.ents]
     ·intro y s h hy q hq
      simp only [obS,Tr.pfx,List.mem_cons,List.mem_append] at h hq
      rcases hq with rfl | hq | hq
      ·exact h _ (.inl rfl)
      ·exact hg.un y s (fun q hq=>h q (.inr (.inl hq))) hy q hq
      ·exact h q (.inr (.inr hq))
    ·have hu:Un x 1 p:=⟨hc,hlt,hsd⟩
     obtain ⟨L1,F1,r',e,hm,hg⟩:=put_spec hp r fuel L F ro n hrh hi.right hr hs
     obtain ⟨h1,h2⟩:=Mm.kid (p':=x) (v':=w) (f':=f) hi (.inr ⟨rfl,rfl,rfl⟩) hm
     have hsz:=h1.trans hi.ok.1
     simp only [obS,hsd,show ¬ ((1:Int) = 0) by omega,decide_true,decide_false,cond_true,cond_false]
     rw [e]
     simp only [obS,getI_nat hsz]
     have hlp : ∀ e ∈ l.ents,Ls e.P p:=fun e he=>(hul _ (ents_pfx he)).ls hu
     have hhas:hasP p (Tr.nd i x w f l r).ents = hasP p r.ents:=by
      simp only [obS,Tr.ents]
      rw [hhp,hasP_append,hasP_false (A:=l.ents) (fun e he=>(hlp e he).ne),Bool.false_or]
     rw [hhas]
     refine ⟨_,F1,.nd i x w f l r',rfl,h2,⟨hx,hl,hg.wf,hul,hg.un x 1 hur hu,fun h=>⟨(hff h).1,hg.nn⟩⟩,?_,?_,fun h=>by cases h⟩
     ·simp only [obS,Tr.ents]
      rw [insE_lt hhd,insE_lt hlp,hg.ents]
     ·intro y s h hy q hq
      simp only [obS,Tr.pfx,List.mem_cons,List.mem_append] at h hq
      rcases hq with rfl | hq | hq
      ·exact h _ (.inl rfl)
      ·exact h q (.inr (.inl hq))
      ·exact hg.un y s (fun q hq=>h q (.inr (.inr hq))) hy q hq
   ·have hcb:F51 x p = false:=Bool.eq_false_iff.2 fun q=>hc ((covers_C hx.inK hp.inK).1 q)
    simp only [obS,hcb,cond_false]
    have hne : ∀ e ∈ (Tr.nd i x w f l r).ents,e.P ≠ p:=by
     intro e he q
     exact hc (q ▸ hall _ (ents_pfx he))
    have hhas:hasP p (Tr.nd i x w f l r).ents = false:=hasP_false hne
    rw [hhas]
    simp only [obS,Bool.false_eq_true,if_false]
    by_cases hc2:C p x
    ·have hcb2:F51 p x = true:=(covers_C hp.inK hx.inK).2 hc2
     have hlt:=hc2.lt (Ne.symm hxp)
     simp only [obS,hcb2,cond_true]
     have hgt : ∀ e ∈ (Tr.nd i x w f l r).ents,Ls p e.P:=fun e he=>(hc2.trans (hall _ (ents_pfx he))).ls (Ne.symm (hne e he))
     have hun : ∀ q ∈ (Tr.nd i x w f l r).pfx,Un p (F60 p x) q:=fun q hq=>(Un.mk hc2 hlt rfl).down (hall q hq)
     rcases side01 p x hp hx (by have:=hx.le; omega) with hsd | hsd
     ·simp only [obS,hsd,decide_true,cond_true]
      rw [hsd] at hun
      obtain ⟨j,L',F',e,ha⟩:=add_spec L F ro (IntKind.i64.wrap (n + 1)) (⟨p,v,true,⟨(i:Int),-1⟩⟩) hi.fo (by omega)
      refine ⟨L',F',.nd j p v true (.nd i x w f l r) .nil,obE e rfl,((two_nil hi).add ha).more (by omega),⟨hp,hwf,trivial,hun,(fun _ h=>by cases h),fun h=>by cases h⟩,?_,?_,fun h=>by cases h⟩
      ·rw [insE_all_gt hgt]
       simp only [obS,Tr.ents,cond_true,List.append_nil,List.singleton_append]
      ·intro y s h hy q hq
       simp only [obS,Tr.pfx,List.mem_cons,List.mem_append,List.append_nil] at hq
       rcases hq with rfl | hq
       ·exact hy
       ·exact h q (by simp only [obS,Tr.pfx,List.mem_cons,List.mem_append]; exact hq)
     ·simp only [obS,hsd,show ¬ ((1:Int) = 0) by omega,decide_true,decide_false,cond_true,cond_false]
      rw [hsd] at hun
      obtain ⟨j,L',F',e,ha⟩:=add_spec L F ro (IntKind.i64.wrap (n + 1)) (⟨p,v,true,⟨-1,(i:Int)⟩⟩) hi.fo (by omega)
      refine ⟨L',F',.nd j p v true .nil (.nd i x w f l r),obE e rfl,((two_nil hi).swap.add ha).more (by omega),⟨hp,trivial,hwf,(fun _ h=>by cases h),hun,fun h=>by cases h⟩,?_,?_,fun h=>by cases h⟩
      ·rw [insE_all_gt hgt]
       simp only [obS,Tr.ents,cond_true,List.nil_append,List.singleton_append]
      ·intro y s h hy q hq
       simp only [obS,Tr.pfx,List.mem_cons,List.mem_append,List.nil_append] at hq
       rcases hq with rfl | hq
       ·exact hy
       ·exact h q (by simp only [obS,Tr.pfx,List.mem_cons,List.mem_append]; exact hq)
    ·have hcb2:F51 p x = false:=Bool.eq_false_iff.2 fun q=>hc2 ((covers_C hp.inK hx.inK).1 q)
     simp only [obS,hcb2,cond_false]
     obtain ⟨c,ec,vc,c1,c2,n1,n2,hd⟩:=common_spec hp hx hc2 hc
     rw [ec]
     have hc32:c.N < 32:=by have:=hx.le; omega
     obtain ⟨j1,L1,F1,e1,a1⟩:=add_spec L F ro (IntKind.i64.wrap (n + 1)) (F59 p v) hi.fo (by omega)
     have hsz1:=a1.sz
     have htw:=AddR.two (t:=.nd i x w f l r) hi a1
     have hup:Un c (F60 c p) p:=⟨c1,n1,rfl⟩
     have hux : ∀ q ∈ (Tr.nd i x w f l r).pfx,Un c (F60 c x) q:=fun q hq=>(Un.mk c2 n2 rfl).down (hall q hq)
     have hcu : ∀ y s,(∀ q ∈ (Tr.nd i x w f l r).pfx,Un y s q) → Un y s p → Un y s c:=fun y s h hy=>Un.common hy (h x (by simp [Tr.pfx])) c1 c2 hd
     rcases side01 c x vc hx hc32 with hsx | hsx
     ·have hsp:F60 c p = 1:=by
       rcases side01 c p vc hp hc32 with h | h
       ·rw [h,hsx] at hd; exact absurd rfl hd
       ·exact h
      rw [hsx] at hux; rw [hsp] at hup
      simp only [obS,hsx,hsp,e1,show ¬ ((1:Int) = 0) by omega,decide_true,decide_false,cond_true,cond_false]
      obtain ⟨j2,L2,F2,e2,a2⟩:=add_spec L1 F1 ro (IntKind.i64.wrap (n + 1)) (⟨c,0,false,⟨(i:Int),(j1:Int)⟩⟩) a1.fo (by omega)
      refine ⟨L2,F2,.nd j2 c 0 false (.nd i x w f l r) (.nd j1 p v true .nil .nil),obE e2 rfl,htw.swap.add a2,⟨vc,hwf,leaf_wf hp,hux,?_,fun _=>⟨(fun h=>by cases h),fun h=>by cases h⟩⟩,?_,?_,fun h=>by cases h⟩
      ·intro q hq
       simp only [obS,Tr.pfx,List.append_nil,List.mem_singleton] at hq
       subst hq; exact hup
      ·rw [insE_all_lt (fun e he=>(hux _ (ents_pfx he)).ls hup)]
       simp only [obS,Tr.ents,cond_true,cond_false,List.nil_append,List.append_nil]
      ·intro y s h hy q hq
       have hq':q = c ∨ q ∈ (Tr.nd i x w f l r).pfx ∨ q = p:=by
        rw [Tr.pfx,List.mem_cons,List.mem_append] at hq
        rcases hq with hq | hq | hq
        ·exact .inl hq
        ·exact .inr (.inl hq)
        ·right; right
         simpa [Tr.pfx] using hq
       rcases hq' with rfl | hq | rfl
       ·exact hcu y s h hy
       ·exact h q hq
       ·exact hy
     ·have hsp:F60 c p = 0:=by
       rcases side01 c p vc hp hc32 with h | h
       ·exact h
       ·rw [h,hsx] at hd; exact absurd rfl hd
      rw [hsx] at hux; rw [hsp] at hup
      simp only [obS,hsx,hsp,e1,show ¬ ((1:Int) = 0) by omega,decide_true,decide_false,cond_true,cond_false]
      obtain ⟨j2,L2,F2,e2,a2⟩:=add_spec L1 F1 ro (IntKind.i64.wrap (n + 1)) (⟨c,0,false,⟨(j1:Int),(i:Int)⟩⟩) a1.fo (by omega)
      refine ⟨L2,F2,.nd j2 c 0 false (.nd j1 p v true .nil .nil) (.nd i x w f l r),obE e2 rfl,htw.add a2,⟨vc,leaf_wf hp,hwf,?_,hux,fun _=>⟨(fun h=>by cases h),fun h=>by cases h⟩⟩,?_,?_,fun h=>by cases h⟩
      ·intro q hq
       simp only [obS,Tr.pfx,List.append_nil,List.mem_singleton] at hq
       subst hq; exact hup
      ·rw [insE_all_gt (fun e he=>hup.ls (hux _ (ents_pfx he)))]
       simp only [obS,Tr.ents,cond_true,cond_false,List.nil_append,List.append_nil,List.singleton_append]
      ·intro y s h hy q hq
       have hq':q = c ∨ q = p ∨ q ∈ (Tr.nd i x w f l r).pfx:=by
        rw [Tr.pfx,List.mem_cons,List.mem_append] at hq
        rcases hq with hq | hq | hq
        ·exact .inl hq
        ·right; left
         simpa [Tr.pfx] using hq
        ·exact .inr (.inr hq)
       rcases hq' with rfl | rfl | hq
       ·exact hcu y s h hy
       ·exact hy
       ·exact h q hq
end Go.Proofs.YtakallenldpkiaaGreatDoor.Abs
end
section
set_option linter.unusedVariables false
set_option linter.unusedSimpArgs false
namespace Go.Proofs.YtakallenldpkiaaGreatDoor.Abs
open Go
def outP (p:qk) (l:List TEntry):List TEntry:=l.filter fun x=>!decide (x.P = p)
theorem outP_append {p:qk} {A B:List TEntry}:outP p (A ++ B) = outP p A ++ outP p B:=by simp [outP]
theorem outP_same {p:qk} {A:List TEntry} (h : ∀ x ∈ A,x.P ≠ p):outP p A = A:=by
 unfold outP
 rw [List.filter_eq_self]
 intro x hx
 simpa using h x hx
structure Lc (p:qk) (t t':Tr):Prop where
 wf:t'.Wf
 ents:t'.ents = outP p t.ents
 un : ∀ q ∈ t'.pfx,q ∈ t.pfx
theorem tidy_spec {b:Nat} {L:List TNode} {F:List Int} {t:Tr} {L1:List TNode} {F1:List Int} {i:Nat} {x:qk} {w:Int} {f:Bool} {a c:Tr}
  (k:Mm b L F t L1 F1 (.nd i x w f a c)) (hit:i ∈ t.ids) (hs:L.length + F.length + b < 1099511627776) (ro n:Int)
  (hx:V x) (ha:a.Wf) (hc:c.Wf) (hua : ∀ q ∈ a.pfx,Un x 0 q) (huc : ∀ q ∈ c.pfx,Un x 1 q) :
  ∃ F2 t',F65 ⟨L1,F1,ro,n⟩ (i:Int) = some (t'.root,⟨L1,F2,ro,n⟩) ∧ Mm (b + 1) L F t L1 F2 t' ∧ t'.Wf ∧ t'.ents = (Tr.nd i x w f a c).ents ∧ ∀ q ∈ t'.pfx,q ∈ (Tr.nd i x w f a c).pfx:=by
 have hsz:=k.sz
 have hF:F1.length < 1099511627776:=by omega
 unfold F65
 simp only [obS,getI_nat k.inv.ok.1,hF,decide_true,cond_true]
 cases f
 ·simp only [obS,cond_false]
  cases a with
  | nil =>
   simp only [obS,root_nil,decide_true,cond_true]
   refine ⟨F1 ++ [(i:Int)],c,?_,(k.drop hit).2,hc,by simp [Tr.ents],fun q hq=>by simp [Tr.pfx,hq]⟩
   have e:max_ (-1) c.root = c.root:=by
    have:=root_ge c
    unfold max_
    split <;> omega
   rw [e]
  | nd i' x' w' f' a1 a2 =>
   simp only [obS,root_nd,nat_ne,decide_false,cond_false]
   cases c with
   | nil =>
    simp only [obS,root_nil,decide_true,cond_true]
    refine ⟨F1 ++ [(i:Int)],.nd i' x' w' f' a1 a2,?_,(k.drop hit).1,ha,by simp [Tr.ents],fun q hq=>by simp only [obS,Tr.pfx,List.append_nil,List.mem_cons]; exact .inr (by simpa [Tr.pfx] using hq)⟩
    have e:max_ (i':Int) (-1) = i':=by
     unfold max_
     split <;> omega
    rw [e]; rfl
   | nd j' y' u' g' c1 c2 =>
    simp only [obS,root_nd,nat_ne,decide_false,cond_false]
    exact ⟨F1,_,rfl,k.more (by omega),⟨hx,ha,hc,hua,huc,fun _=>⟨(fun h=>by cases h),(fun h=>by cases h)⟩⟩,rfl,fun q hq=>hq⟩
 ·simp only [obS,cond_true]
  exact ⟨F1,_,rfl,k.more (by omega),⟨hx,ha,hc,hua,huc,(fun h=>by cases h)⟩,rfl,fun q hq=>hq⟩
theorem hasP_mem {p:qk} {l:List TEntry}:hasP p l = true ↔ ∃ e ∈ l,e.P = p:=by simp [hasP]
theorem cut_spec {p:qk} (hp:V p) : ∀ (t:Tr) (fuel:Nat) (L:List TNode) (F:List Int) (ro n:Int),t.ht < fuel → TInv L F t → t.Wf → L.length + F.length + t.ht < 1099511627776 → hasP p t.ents = true →
  ∃ L' F' t',F49 fuel ⟨L,F,ro,n⟩ t.root p = some (t'.root,⟨L',F',ro,n⟩) ∧ Mm t.ht L F t L' F' t' ∧ Lc p t t'
 | .nil,_,_,_,_,_,_,_,_,_,hm=>by simp [hasP,Tr.ents] at hm
 | .nd i x w f l r,0,_,_,_,_,h,_,_,_,_=>absurd h (by omega)
 | .nd i x w f l r,fuel + 1,L,F,ro,n,hf,hi,hw,hs,hm=>by
  obtain ⟨hx,hl,hr,hul,hur,hff⟩:=hw
  have hlh:l.ht < fuel:=by simp only [obS,Tr.ht] at hf; omega
  have hrh:r.ht < fuel:=by simp only [obS,Tr.ht] at hf; omega
  have hls:L.length + F.length + l.ht < 1099511627776:=by simp only [obS,Tr.ht] at hs; omega
  have hrs:L.length + F.length + r.ht < 1099511627776:=by simp only [obS,Tr.ht] at hs; omega
  have hs0:L.length + F.length < 1099511627776:=by omega
  unfold F49
  simp only [obS,root_nd,getI_nat hi.ok.1,peq]
  have hii:i ∈ (Tr.nd i x w f l r).ids:=by simp [Tr.ids]
  have hlx : ∀ e ∈ l.ents,e.P ≠ x:=fun e he q=>by have:=(hul _ (ents_pfx he)).lt; rw [q] at this; omega
  have hrx : ∀ e ∈ r.ents,e.P ≠ x:=fun e he q=>by have:=(hur _ (ents_pfx he)).lt; rw [q] at this; omega
  by_cases hxp:x = p
  ·subst hxp
   simp only [obS,decide_true,cond_true,List.set_set,Int.toNat_natCast]
   have hk:=(Mm.kid (p':=x) (v':=0) (f':=false) hi (.inl ⟨rfl,rfl,rfl⟩) (Mm.refl hi.left)).2
   obtain ⟨F2,t',e,k2,hw',he,hq⟩:=tidy_spec hk hii (by omega) ro n hx hl hr hul hur
   refine ⟨_,F2,t',obE e rfl,k2.more (by simp only [obS,Tr.ht]; omega),hw',?_,fun q h=>by simpa [Tr.pfx] using hq q h⟩
   rw [he]
   simp only [obS,Tr.ents,cond_false,List.nil_append]
   rw [outP_append,outP_append,outP_same hlx,outP_same hrx]
   cases f <;> simp [outP]
  ·simp only [obS,hxp,decide_false,cond_false]
   have hhd : ∀ B,outP p ((bif f then [(⟨x,w⟩ : TEntry)] else []) ++ B) = (bif f then [(⟨x,w⟩ : TEntry)] else []) ++ outP p B:=by
    intro B
    rw [outP_append,outP_same (A:=(bif f then [(⟨x,w⟩ : TEntry)] else []))]
    intro e he
    cases f
    ·cases he
    ·simp only [obS,cond_true,List.mem_singleton] at he
     subst he; exact hxp
   have hlr:hasP p l.ents = true ∨ hasP p r.ents = true:=by
    obtain ⟨e,he,hep⟩:=hasP_mem.1 hm
    simp only [obS,Tr.ents,List.mem_append] at he
    rcases he with he | he | he
    ·cases f
     ·cases he
     ·simp only [obS,cond_true,List.mem_singleton] at he
      subst he; exact absurd hep hxp
    ·exact .inl (hasP_mem.2 ⟨e,he,hep⟩)
    ·exact .inr (hasP_mem.2 ⟨e,he,hep⟩)
   rcases hlr with hin | hin
   ·obtain ⟨e0,he0,hep⟩:=hasP_mem.1 hin
    have hu:Un x 0 p:=hep ▸ hul _ (ents_pfx he0)
    obtain ⟨L1,F1,l',e,hk,hg⟩:=cut_spec hp l fuel L F ro n hlh hi.left hl hls hin
    obtain ⟨h1,h2⟩:=Mm.kid (p':=x) (v':=w) (f':=f) hi (.inl ⟨rfl,rfl,rfl⟩) hk
    simp only [obS,hu.sd,decide_true,cond_true]
    rw [e]
    simp only [obS,getI_nat (h1.trans hi.ok.1),Int.toNat_natCast]
    obtain ⟨F2,t',e2,k2,hw',he,hq⟩:=tidy_spec h2 hii hls ro n hx hg.wf hr (fun q h=>hul q (hg.un q h)) hur
    refine ⟨_,F2,t',obE e2 rfl,k2.more (by simp only [obS,Tr.ht]; omega),hw',?_,fun q h=>?_⟩
    ·rw [he]
     simp only [obS,Tr.ents]
     rw [hhd,outP_append,hg.ents,outP_same (A:=r.ents) (fun e he q=>(hu.ls (hur _ (ents_pfx he))).ne q.symm)]
    ·have:=hq q h
     simp only [obS,Tr.pfx,List.mem_cons,List.mem_append] at this ⊢
     rcases this with h | h | h
     ·exact .inl h
     ·exact .inr (.inl (hg.un q h))
     ·exact .inr (.inr h)
   ·obtain ⟨e0,he0,hep⟩:=hasP_mem.1 hin
    have hu:Un x 1 p:=hep ▸ hur _ (ents_pfx he0)
    obtain ⟨L1,F1,r',e,hk,hg⟩:=cut_spec hp r fuel L F ro n hrh hi.right hr hrs hin
    obtain ⟨h1,h2⟩:=Mm.kid (p':=x) (v':=w) (f':=f) hi (.inr ⟨rfl,rfl,rfl⟩) hk
    simp only [obS,hu.sd,show ¬ ((1:Int) = 0) by omega,decide_true,decide_false,cond_true,cond_false]
    rw [e]
    simp only [obS,getI_nat (h1.trans hi.ok.1),Int.toNat_natCast]
    obtain ⟨F2,t',e2,k2,hw',he,hq⟩:=tidy_spec h2 hii hrs ro n hx hl hg.wf hul (fun q h=>hur q (hg.un q h))
    refine ⟨_,F2,t',obE e2 rfl,k2.more (by simp only [obS,Tr.ht]; omega),hw',?_,fun q h=>?_⟩
    ·rw [he]
     simp only [obS,Tr.ents]
     rw [hhd,outP_append,hg.ents,outP_same (A:=l.ents) (fun e he q=>((hul _ (ents_pfx he)).ls hu).ne q)]
    ·have:=hq q h
     simp only [obS,Tr.pfx,List.mem_cons,List.mem_append] at this ⊢
     rcases this with h | h | h
     ·exact .inl h
     ·exact .inr (.inl h)
     ·exact .inr (.inr (hg.un q h))
def abP (p:qk) (l:List TEntry):List TEntry:=l.filter fun e=>F51 e.P p
def beP (p:qk) (l:List TEntry):List TEntry:=l.filter fun e=>F51 p e.P
theorem abP_append {p:qk} {A B:List TEntry}:abP p (A ++ B) = abP p A ++ abP p B:=by simp [abP]
theorem abP_none {p:qk} {A:List TEntry} (h : ∀ x ∈ A,F51 x.P p = false):abP p A = []:=by
 unfold abP
 rw [List.filter_eq_nil_iff]
 intro x hx
 simp [h x hx]
theorem beP_append {p:qk} {A B:List TEntry}:beP p (A ++ B) = beP p A ++ beP p B:=by simp [beP]
theorem beP_none {p:qk} {A:List TEntry} (h : ∀ x ∈ A,F51 p x.P = false):beP p A = []:=by
 unfold beP
 rw [List.filter_eq_nil_iff]
 intro x hx
 simp [h x hx]
theorem cov_false {p q:qk} (hp:InK .u32 p.A) (hq:InK .u32 q.A) (h : ¬ C p q):F51 p q = false :=
 Bool.eq_false_iff.2 fun g=>h ((covers_C hp hq).1 g)
def outD (X:Except (List TEntry) (Int × List TEntry)):List TEntry:=match X with
 | .error r=>r
 | .ok (_,r)=>r
theorem down_spec {p:qk} (hp:InK .u32 p.A) (T:TTrie) : ∀ (t:Tr) (fuel:Nat) (row:List TEntry),t.ht < fuel → t.Ok T.l → t.Wf → row.length + t.ht < 1099511627776 →
  ∃ X,F56l1 T p fuel t.root row = some X ∧ outD X = row ++ abP p t.ents
 | .nil,0,_,h,_,_,_=>absurd h (by omega)
 | .nil,fuel + 1,row,_,_,_,_=>by
  unfold F56l1
  simp only [obS,root_nil,decide_true,cond_true]
  exact ⟨_,rfl,by simp [outD,Tr.ents,abP]⟩
 | .nd i x w f l r,0,_,h,_,_,_=>absurd h (by omega)
 | .nd i x w f l r,fuel + 1,row,hf,ho,hw,hs=>by
  have hall:=wf_C hw
  have hV:=wf_V hw
  obtain ⟨hx,hl,hr,hul,hur,hff⟩:=hw
  simp only [obS,Tr.ht] at hf hs
  have hrl:row.length < 1099511627776:=by omega
  unfold F56l1
  simp only [obS,root_nd,nat_ne,decide_false,cond_false,getI_nat ho.1]
  by_cases hc:C x p
  ·have hcb:F51 x p = true:=(covers_C hx.inK hp).2 hc
   simp only [obS,hcb,cond_true]
   have e37:F57 ⟨x,w,f,⟨l.root,r.root⟩⟩ row = some (row ++ (bif f then [(⟨x,w⟩ : TEntry)] else [])):=by
    unfold F57
    cases f
    ·simp
    ·simp only [obS,cond_true,hrl,decide_true]
   have hab:abP p (bif f then [(⟨x,w⟩ : TEntry)] else []) = (bif f then [(⟨x,w⟩ : TEntry)] else []):=by
    cases f
    ·rfl
    ·simp [abP,hcb]
   have hlen:(row ++ (bif f then [(⟨x,w⟩ : TEntry)] else [])).length ≤ row.length + 1:=by cases f <;> simp
   rw [e37]
   simp only [obS]
   by_cases hN:x.N = p.N
   ·simp only [obS,hN,decide_true,cond_true]
    refine ⟨_,rfl,?_⟩
    have hnone : ∀ e ∈ l.ents ++ r.ents,F51 e.P p = false:=by
     intro e he
     have hq:x.N < e.P.N ∧ V e.P:=by
      rcases List.mem_append.1 he with he | he
      ·exact ⟨(hul _ (ents_pfx he)).lt,(hul _ (ents_pfx he)).c.right⟩
      ·exact ⟨(hur _ (ents_pfx he)).lt,(hur _ (ents_pfx he)).c.right⟩
     refine cov_false hq.2.inK hp fun g=>?_
     have:=g.le; omega
    simp only [obS,outD,Tr.ents]
    rw [abP_append,hab,abP_none hnone,List.append_nil]
   ·have hlt:x.N < p.N:=by have:=hc.le; omega
    simp only [obS,hN,decide_false,cond_false]
    have hu:Un x (F60 x p) p:=⟨hc,hlt,rfl⟩
    rcases side01 x p hx hc.right (by have:=hc.right.le; omega) with hsd | hsd
    ·rw [hsd] at hu
     simp only [obS,hsd,decide_true,cond_true]
     obtain ⟨X,e,h⟩:=down_spec hp T l fuel (row ++ (bif f then [(⟨x,w⟩ : TEntry)] else [])) (by omega) ho.2.1 hl (by omega)
     refine ⟨X,e,?_⟩
     have hnone : ∀ e ∈ r.ents,F51 e.P p = false:=fun e he=>cov_false (hur _ (ents_pfx he)).c.right.inK hp (hu.apart (hur _ (ents_pfx he))).2
     rw [h]
     simp only [obS,Tr.ents]
     rw [abP_append,abP_append,hab,abP_none hnone,List.append_nil,List.append_assoc]
    ·rw [hsd] at hu
     simp only [obS,hsd,show ¬ ((1:Int) = 0) by omega,decide_true,decide_false,cond_true,cond_false]
     obtain ⟨X,e,h⟩:=down_spec hp T r fuel (row ++ (bif f then [(⟨x,w⟩ : TEntry)] else [])) (by omega) ho.2.2 hr (by omega)
     refine ⟨X,e,?_⟩
     have hnone : ∀ e ∈ l.ents,F51 e.P p = false:=fun e he=>cov_false (hul _ (ents_pfx he)).c.right.inK hp ((hul _ (ents_pfx he)).apart hu).1
     rw [h]
     simp only [obS,Tr.ents]
     rw [abP_append,abP_append,hab,abP_none hnone,List.nil_append,List.append_assoc]
  ·simp only [obS,cov_false hx.inK hp hc,cond_false]
   refine ⟨_,rfl,?_⟩
   have hnone : ∀ e ∈ (Tr.nd i x w f l r).ents,F51 e.P p = false:=by
    intro e he
    exact cov_false (hV _ (ents_pfx he)).inK hp fun g=>hc ((hall _ (ents_pfx he)).trans g)
   rw [abP_none hnone,List.append_nil]
   rfl
theorem below_spec {p:qk} (hp:V p) (T:TTrie) : ∀ (t:Tr) (fuel:Nat) (row:List TEntry),t.ht < fuel → t.Ok T.l → t.Wf → row.length + t.ents.length < 1099511627776 →
  F50 fuel t.root T p row = some (row ++ beP p t.ents)
 | .nil,0,_,h,_,_,_=>absurd h (by omega)
 | .nil,fuel + 1,row,_,_,_,_=>by
  unfold F50
  simp only [obS,root_nil,decide_true,cond_true]
  simp [Tr.ents,beP]
 | .nd i x w f l r,0,_,h,_,_,_=>absurd h (by omega)
 | .nd i x w f l r,fuel + 1,row,hf,ho,hw,hs=>by
  have hall:=wf_C hw
  have hV:=wf_V hw
  obtain ⟨hx,hl,hr,hul,hur,hff⟩:=hw
  simp only [obS,Tr.ht] at hf
  unfold F50
  simp only [obS,root_nd,nat_ne,decide_false,cond_false,getI_nat ho.1]
  have hbl:(beP p l.ents).length ≤ l.ents.length:=List.length_filter_le _ _
  simp only [obS,Tr.ents,List.length_append] at hs
  have both : ∀ row':List TEntry,row'.length + (l.ents.length + r.ents.length) < 1099511627776 →
    (obind (F50 fuel l.root T p row') fun c46=>obind (F50 fuel r.root T p c46) fun c51=>some c51) = some (row' ++ (beP p l.ents ++ beP p r.ents)):=by
   intro row' h
   rw [below_spec hp T l fuel row' (by omega) ho.2.1 hl (by omega)]
   simp only [obS]
   rw [below_spec hp T r fuel _ (by omega) ho.2.2 hr (by rw [List.length_append]; omega),List.append_assoc]
   rfl
  by_cases hc:C p x
  ·have hcb:F51 p x = true:=(covers_C hp.inK hx.inK).2 hc
   cases f
   ·simp only [obS,cond_false,hcb,cond_true]
    refine (both row (by simp only [obS,cond_false,List.length_nil] at hs; omega)).trans ?_
    simp only [obS,Tr.ents,cond_false,List.nil_append]
    rw [beP_append]
   ·simp only [obS,cond_true,hcb]
    simp only [obS,cond_true,List.length_cons,List.length_nil] at hs
    have hrl:row.length < 1099511627776:=by omega
    simp only [obS,hrl,decide_true,cond_true]
    refine (both _ (by simp only [obS,List.length_append,List.length_cons,List.length_nil]; omega)).trans ?_
    simp only [obS,Tr.ents,cond_true]
    rw [beP_append,beP_append,List.append_assoc]
    simp [beP,hcb]
  ·have hcb:F51 p x = false:=cov_false hp.inK hx.inK hc
   have hhd:beP p (bif f then [(⟨x,w⟩ : TEntry)] else []) = []:=by cases f <;> simp [beP,hcb]
   by_cases hc2:C x p
   ·have hcb2:F51 x p = true:=(covers_C hx.inK hp.inK).2 hc2
    have hfin:=both row (by omega)
    have hrhs:beP p (Tr.nd i x w f l r).ents = beP p l.ents ++ beP p r.ents:=by
     simp only [obS,Tr.ents]
     rw [beP_append,hhd,List.nil_append,beP_append]
    rw [hrhs]
    cases f
    ·simp only [obS,cond_false,cond_true,hcb,hcb2]; exact hfin
    ·simp only [obS,cond_false,cond_true,hcb,hcb2]; exact hfin
   ·have hcb2:F51 x p = false:=cov_false hx.inK hp.inK hc2
    have hnone : ∀ e ∈ (Tr.nd i x w f l r).ents,F51 p e.P = false:=by
     intro e he
     refine cov_false hp.inK (hV _ (ents_pfx he)).inK fun g=>?_
     have hxe:=hall _ (ents_pfx he)
     by_cases hle:p.N ≤ x.N
     ·exact hc (g.comp hxe hle)
     ·exact hc2 (hxe.comp g (by omega))
    rw [beP_none hnone,List.append_nil]
    cases f
    ·simp only [obS,cond_false,cond_true,hcb,hcb2]
    ·simp only [obS,cond_false,cond_true,hcb,hcb2]
end Go.Proofs.YtakallenldpkiaaGreatDoor.Abs
end
section
set_option linter.unusedVariables false
set_option linter.unusedSimpArgs false
namespace Go.Proofs.YtakallenldpkiaaGreatDoor.Abs
open Go
theorem srt_cons {x:TEntry} {l:List TEntry}:Srt (x :: l) ↔ (∀ y ∈ l,Ls x.P y.P) ∧ Srt l:=List.pairwise_cons
def putEn (m:List TEntry) (p:qk) (v:Int):List TEntry × Int :=
 bif F28 p then (bif hasP p m then (insE p v m,0) else (bif decide (5000 ≤ (m.length:Int)) then (m,8) else (insE p v m,0))) else (m,1)
def AllV (l:List TEntry):Prop:=∀ e ∈ l,V e.P
def Chn (l:List TEntry):Prop:=l.Pairwise fun a b=>a.P.N < b.P.N
theorem abP_chain {p:qk} (hp:InK .u32 p.A) : ∀ {l:List TEntry},Srt l → AllV l → Chn (abP p l)
 | [],_,_=>List.Pairwise.nil
 | x :: l,hs,hv=>by
  obtain ⟨h1,h2⟩:=srt_cons.1 hs
  have ih:=abP_chain hp h2 (fun e he=>hv e (by simp [he]))
  by_cases hc:F51 x.P p = true
  ·have e:abP p (x :: l) = x :: abP p l:=by simp [abP,hc]
   rw [e]
   refine List.pairwise_cons.2 ⟨fun y hy=>?_,ih⟩
   obtain ⟨hy1,hy2⟩:=List.mem_filter.1 hy
   have c1:=(covers_C (hv x (by simp)).inK hp).1 hc
   have c2:=(covers_C (hv y (by simp [hy1])).inK hp).1 hy2
   apply Int.lt_of_not_ge
   intro hle
   have c3:=c2.comp c1 hle
   have hl:=h1 y hy1
   exact hl.asymm (c3.ls hl.ne.symm)
  ·have e:abP p (x :: l) = abP p l:=by simp [abP,hc]
   rw [e]; exact ih
theorem chn_last {L:List TEntry} {e:TEntry} (h:Chn L) (he:e ∈ L) (hm : ∀ x ∈ L,x.P.N ≤ e.P.N):L.getLast? = some e:=by
 obtain ⟨A,B,rfl⟩:=List.append_of_mem he
 have:B = []:=by
  cases B with
  | nil=>rfl
  | cons b B =>
   have h2:=(List.pairwise_append.1 h).2.1
   have h3:=(List.pairwise_cons.1 h2).1 b (by simp)
   have:=hm b (by simp)
   omega
 subst this
 simp
theorem chn_max {L:List TEntry} {e:TEntry} (h:Chn L) (hl:L.getLast? = some e) : ∀ x ∈ L,x.P.N ≤ e.P.N:=by
 obtain ⟨A,rfl⟩ : ∃ A,L = A ++ [e]:=by
  rcases List.eq_nil_or_concat L with rfl | ⟨A,y,rfl⟩
  ·cases hl
  ·simp at hl; subst hl; exact ⟨A,by simp⟩
 intro x hx
 rcases List.mem_append.1 hx with hx | hx
 ·have:=(List.pairwise_append.1 h).2.2 x hx e (by simp)
  omega
 ·simp only [obS,List.mem_singleton] at hx
  subst hx; exact Int.le_refl _
theorem getI_last {α:Type} {L:List α} (h:L ≠ []) (hl:L.length < 1099511627776):getI L (IntKind.i64.wrap ((L.length:Int) - 1)) = L.getLast?:=by
 have h0:0 < L.length:=List.length_pos_iff.2 h
 rw [wi64 (by omega) (by omega)]
 unfold getI
 rw [if_pos (by omega),List.getLast?_eq_getElem?]
 congr 1
 omega
def gotE (m:List TEntry) (p:qk):Int × Bool:=match m.find? fun x=>decide (x.P = p) with
 | some e=>(e.V,true)
 | none=>(0,false)
def hsA (a:Int) (l:List TEntry):List TEntry:=l.filter fun x=>F9 x.P a
def fndE (m:List TEntry) (a:Int):TEntry × Bool:=match (hsA a m).getLast? with
 | some e=>(e,true)
 | none=>(⟨⟨0,0⟩,0⟩,false)
theorem V32 {a:Int} (h:InK .u32 a):V ⟨a,32⟩:=by
 obtain ⟨b,rfl,hb⟩:=u32_nat h
 exact ⟨b,32,rfl,rfl,hb,by omega,by simp [Nat.mod_one]⟩
theorem hasA_eq {a:Int} (h:InK .u32 a) {l:List TEntry} (hv:AllV l):hsA a l = abP ⟨a,32⟩ l:=by
 unfold hsA abP
 apply List.filter_congr
 intro x hx
 have hV:=hv x hx
 unfold F51
 rw [(may_V (p:=⟨a,32⟩) h).2 (V32 h),has_same hV.inK h]
 have:x.P.N ≤ 32:=hV.le.2
 simp [this]
end Go.Proofs.YtakallenldpkiaaGreatDoor.Abs
end
section
set_option linter.unusedVariables false
set_option linter.unusedSimpArgs false
namespace Go.Proofs.YtakallenldpkiaaGreatDoor.Abs
open Go
structure TSim (B:Nat) (T:TTrie) (m:List TEntry):Prop where
 ex : ∃ t:Tr,T.root = t.root ∧ TInv T.l T.free t ∧ t.Wf ∧ t.ents = m
 n:T.n = m.length
 len:m.length ≤ B
 sz:T.l.length + T.free.length ≤ B
theorem TSim.mono {B B':Nat} {T:TTrie} {m:List TEntry} (h:TSim B T m) (hb:B ≤ B'):TSim B' T m:=⟨h.ex,h.n,by have:=h.len; omega,by have:=h.sz; omega⟩
theorem TSim.srt {B:Nat} {T:TTrie} {m:List TEntry} (h:TSim B T m):Srt m:=by
 obtain ⟨t,_,_,hw,rfl⟩:=h.ex
 exact wf_srt hw
theorem TSim.allV {B:Nat} {T:TTrie} {m:List TEntry} (h:TSim B T m):AllV m:=by
 obtain ⟨t,_,_,hw,rfl⟩:=h.ex
 exact fun e he=>wf_V hw _ (ents_pfx he)
theorem sim_new:TSim 0 F20 [] :=
 ⟨⟨.nil,rfl,inv_nil ⟨List.nodup_nil,fun _ h=>by cases h⟩,trivial,rfl⟩,rfl,Nat.le_refl _,by simp [F20]⟩
section
variable {B:Nat} {T:TTrie} {m:List TEntry}
theorem above_sim (h:TSim B T m) (hB:B + 40 < 1099511627776) {p:qk} (hp:InK .u32 p.A):F42 T p = some (abP p m):=by
 obtain ⟨t,h1,h2,h3,rfl⟩:=h.ex
 unfold F42 F56
 have:=ht_33 h3
 obtain ⟨X,e,hX⟩:=down_spec hp T t 100 [] (by omega) h2.ok h3 (by simp only [obS,List.length_nil]; omega)
 rw [h1,e]
 rw [List.nil_append] at hX
 rw [← hX]
 rcases X with r | ⟨i,r⟩ <;> rfl
theorem below_sim (h:TSim B T m) (hB:B + 40 < 1099511627776) {p:qk} (hp:InK .u32 p.A):F34 T p = some (beP p m):=by
 obtain ⟨t,h1,h2,h3,rfl⟩:=h.ex
 unfold F34
 have:=ht_33 h3
 have:=h.len
 by_cases hm:F28 p = true
 ·simp only [obS,hm,cond_true]
  rw [h1,below_spec ((may_V hp).1 hm) T t 100 [] (by omega) h2.ok h3 (by simp only [obS,List.length_nil]; omega),List.nil_append]
  rfl
 ·have hm':F28 p = false:=Bool.eq_false_iff.2 hm
  simp only [obS,hm',cond_false]
  rw [beP_none]
  intro e he
  exact cov_false hp (h.allV e he).inK fun g=>hm ((may_V hp).2 g.left)
theorem V00:V ⟨0,0⟩:=⟨0,0,rfl,rfl,by omega,by omega,rfl⟩
theorem walk_sim (h:TSim B T m) (hB:B + 40 < 1099511627776):F22 T = some m:=by
 unfold F22
 rw [below_sim h hB V00.inK,obS]
 congr 1
 unfold beP
 rw [List.filter_eq_self]
 intro e he
 obtain ⟨a,n,hv⟩:=h.allV e he
 refine (covers_C V00.inK (h.allV e he).inK).2 ⟨0,0,a,n,⟨rfl,rfl,by omega,by omega,rfl⟩,hv,by omega,?_⟩
 have:=hv.lt
 rw [Nat.div_eq_of_lt (by omega),Nat.div_eq_of_lt (by omega)]
theorem getE_last (hs:Srt m) (hv:AllV m) {p:qk} (hp:InK .u32 p.A):gotE m p = match (abP p m).getLast? with
  | some e=>if e.P = p then (e.V,true) else (0,false)
  | none=>(0,false):=by
 have hc:=abP_chain hp hs hv
 unfold gotE
 cases hf:m.find? (fun x=>decide (x.P = p)) with
 | some e =>
  have hm:=List.mem_of_find?_eq_some hf
  have hep:e.P = p:=by simpa using List.find?_some hf
  have hV:V p:=hep ▸ hv e hm
  have hin:e ∈ abP p m:=List.mem_filter.2 ⟨hm,by rw [hep]; exact (covers_C hV.inK hV.inK).2 (C.refl hV)⟩
  have hl:=chn_last hc hin (fun x hx=>by
   have:=((covers_C (hv x (List.mem_filter.1 hx).1).inK hp).1 (List.mem_filter.1 hx).2).le
   rw [hep]; exact this)
  rw [hl]
  simp only [obS,hep,if_true]
 | none =>
  cases hl:(abP p m).getLast? with
  | none=>rfl
  | some e =>
   have hin:e ∈ abP p m:=List.mem_of_getLast? hl
   have:=List.find?_eq_none.1 hf e (List.mem_filter.1 hin).1
   have hne:e.P ≠ p:=by simpa using this
   simp only [obS,hne,if_false]
theorem get_sim (h:TSim B T m) (hB:B + 40 < 1099511627776) {p:qk} (hp:InK .u32 p.A):F31 T p = some (gotE m p):=by
 unfold F31
 rw [above_sim h hB hp,getE_last h.srt h.allV hp]
 simp only [obS]
 have hlen:(abP p m).length ≤ m.length:=List.length_filter_le _ _
 have:=h.len
 by_cases h0:abP p m = []
 ·rw [h0]; rfl
 ·have hne : ¬ ((abP p m).length:Int) = 0:=by
   have:=List.length_pos_iff.2 h0
   omega
  simp only [obS,hne,decide_false,cond_false]
  rw [getI_last h0 (by omega)]
  cases hl:(abP p m).getLast? with
  | none=>exact absurd (List.getLast?_eq_none_iff.1 hl) h0
  | some e =>
   simp only [obS,peq]
   by_cases he:e.P = p
   ·simp only [obS,he,decide_true,cond_true,if_true]
   ·simp only [obS,he,decide_false,cond_false,if_false]
theorem find_sim (h:TSim B T m) (hB:B + 40 < 1099511627776) {a:Int} (ha:InK .u32 a):F25 T a = some (fndE m a):=by
 unfold F25 fndE
 rw [above_sim h hB (p:=⟨a,32⟩) ha,hasA_eq ha h.allV]
 simp only [obS]
 have hlen:(abP ⟨a,32⟩ m).length ≤ m.length:=List.length_filter_le _ _
 have:=h.len
 by_cases h0:abP ⟨a,32⟩ m = []
 ·rw [h0]; rfl
 ·have hne : ¬ ((abP ⟨a,32⟩ m).length:Int) = 0:=by
   have:=List.length_pos_iff.2 h0
   omega
  simp only [obS,hne,decide_false,cond_false]
  rw [getI_last h0 (by omega)]
  cases hl:(abP ⟨a,32⟩ m).getLast? with
  | none=>exact absurd (List.getLast?_eq_none_iff.1 hl) h0
  | some e=>rfl
theorem hasP_getE {p:qk}:(gotE m p).2 = hasP p m:=by
 unfold gotE hasP
 cases hf:m.find? (fun x=>decide (x.P = p)) with
 | some e=>exact (List.any_eq_true.2 ⟨e,List.mem_of_find?_eq_some hf,List.find?_some hf⟩).symm
 | none=>exact (List.any_eq_false.2 (List.find?_eq_none.1 hf)).symm
theorem insE_len {p:qk} {v:Int} : ∀ {m:List TEntry},Srt m → (insE p v m).length = m.length + (if hasP p m = true then 0 else 1)
 | [],_=>rfl
 | x :: l,hs=>by
  obtain ⟨h1,h2⟩:=srt_cons.1 hs
  have ih:=insE_len (p:=p) (v:=v) h2
  rw [insE]
  by_cases hx:x.P = p
  ·rw [if_pos hx]
   have:hasP p (x :: l) = true:=by simp [hasP,hx]
   rw [this]; simp
  ·have e:hasP p (x :: l) = hasP p l:=by simp [hasP,hx]
   rw [if_neg hx,e]
   by_cases hl:Fo29_crossroadsref03_Less p x.P = true
   ·rw [if_pos hl]
    have:hasP p l = false:=hasP_false (fun y hy=>Ne.symm ((less_Ls.1 hl).trans (h1 y hy)).ne)
    rw [this]; simp
   ·rw [if_neg hl,List.length_cons,ih,List.length_cons]; omega
theorem outP_has {p:qk} : ∀ {m:List TEntry},Srt m → hasP p m = true → (outP p m).length + 1 = m.length
 | [],_,h=>by cases h
 | x :: l,hs,h=>by
  obtain ⟨h1,h2⟩:=srt_cons.1 hs
  by_cases hx:x.P = p
  ·have e:outP p (x :: l) = outP p l:=by simp [outP,hx]
   rw [e,outP_same (fun y hy=>by rw [← hx]; exact (h1 y hy).ne.symm)]; rfl
  ·have e:outP p (x :: l) = x :: outP p l:=by simp [outP,hx]
   have e2:hasP p (x :: l) = hasP p l:=by simp [hasP,hx]
   rw [e,List.length_cons,outP_has h2 (e2 ▸ h),List.length_cons]
theorem put_sim (h:TSim B T m) (hB:B + 40 < 1099511627776) {p:qk} {v:Int} (hp:V p) :
  ∃ i L' F' n',F45 100 T T.root p v = some (i,⟨L',F',T.root,n'⟩) ∧ TSim (B + 40) ⟨L',F',i,n'⟩ (insE p v m):=by
 have hs:=h.srt
 have hn:=h.n
 have hlen:=h.len
 have hsz:=h.sz
 obtain ⟨t,h1,h2,h3,rfl⟩:=h.ex
 have:=ht_33 h3
 obtain ⟨L',F',t',e,hm,hg⟩:=put_spec (v:=v) hp t 100 T.l T.free T.root T.n (by omega) h2 h3 (by omega)
 rw [← h1] at e
 refine ⟨_,L',F',_,e,⟨t',rfl,hm.inv,hg.wf,hg.ents⟩,?_,?_,?_⟩
 ·simp only [obS]
  rw [insE_len hs,hn]
  split
  ·simp
  ·rw [wi64 (by omega) (by omega)]; simp
 ·rw [insE_len hs]; split <;> omega
 ·have:=hm.sz; simp only; omega
theorem set_sim (h:TSim B T m) (hB:B + 40 < 1099511627776) {p:qk} {v:Int} (hp:InK .u32 p.A) :
  ∃ T',F29 T p v = some ((putEn m p v).2,T') ∧ TSim (B + 40) T' (putEn m p v).1:=by
 unfold F29 putEn
 by_cases hm:F28 p = true
 ·have hV:=(may_V hp).1 hm
  obtain ⟨i,L',F',n',e,hS⟩:=put_sim (v:=v) h hB hV
  simp only [obS,hm,cond_true]
  rw [get_sim h hB hp]
  have hh:=hasP_getE (m:=m) (p:=p)
  rcases hg:gotE m p with ⟨g1,g2⟩
  rw [hg] at hh
  simp only at hh ⊢
  rw [hh]
  cases hasP p m
  ·simp only [obS,cond_false,h.n]
   cases hd:decide (5000 ≤ (m.length:Int))
   ·simp only [obS,cond_false]
    rw [e]
    exact ⟨_,rfl,hS⟩
   ·simp only [obS,cond_true]
    exact ⟨T,rfl,h.mono (by omega)⟩
  ·simp only [obS,cond_true]
   rw [e]
   exact ⟨_,rfl,hS⟩
 ·have hm':F28 p = false:=Bool.eq_false_iff.2 hm
  simp only [obS,hm',cond_false]
  exact ⟨T,rfl,h.mono (by omega)⟩
theorem drop_sim (h:TSim B T m) (hB:B + 40 < 1099511627776) {p:qk} (hp:InK .u32 p.A) :
  ∃ T',F32 T p = some (hasP p m,T') ∧ TSim (B + 40) T' (outP p m):=by
 unfold F32
 rw [get_sim h hB hp]
 have hh:=hasP_getE (m:=m) (p:=p)
 rcases hg:gotE m p with ⟨g1,g2⟩
 rw [hg] at hh
 simp only at hh ⊢
 rw [hh]
 cases hb:hasP p m
 ·simp only [obS,cond_false]
  refine ⟨T,rfl,?_⟩
  rw [outP_same]
  ·exact h.mono (by omega)
  ·intro x hx q
   have:hasP p m = true:=hasP_mem.2 ⟨x,hx,q⟩
   rw [hb] at this; cases this
 ·simp only [obS,cond_true]
  have hs:=h.srt
  have hn:=h.n
  have hlen:=h.len
  have hsz:=h.sz
  have hV:V p:=by
   obtain ⟨e,he,rfl⟩:=hasP_mem.1 hb
   exact h.allV e he
  have hol:=outP_has hs hb
  obtain ⟨t,h1,h2,h3,rfl⟩:=h.ex
  have:=ht_33 h3
  obtain ⟨L',F',t',e,hm,hc⟩:=cut_spec hV t 100 T.l T.free T.root (IntKind.i64.wrap (T.n - 1)) (by omega) h2 h3 (by omega) hb
  rw [← h1] at e
  rw [e]
  refine ⟨_,rfl,⟨t',rfl,hm.inv,hc.wf,hc.ents⟩,?_,?_,?_⟩
  ·simp only [obS]
   rw [hn,wi64 (by omega) (by omega)]
   omega
  ·omega
  ·have:=hm.sz; simp only; omega
end
end Go.Proofs.YtakallenldpkiaaGreatDoor.Abs
end
end

/- Of the abstract machine and its walks: see the texts that import this. -/
section
section
set_option linter.unusedVariables false
set_option linter.unusedSimpArgs false
namespace Go.Proofs.YtakallenldpkiaaGreatDoor.Abs
open Go
def valD (l:List UInt8):Nat:=l.foldl (fun a b=>10 * a + (b.toNat - 48)) 0
theorem valD_snoc (l:List UInt8) (b:UInt8):valD (l ++ [b]) = 10 * valD l + (b.toNat - 48):=by simp [valD]
theorem dig_nat {k:Nat} (h:k < 10):(UInt8.ofNat (48 + k)).toNat = 48 + k:=by
 rw [UInt8.toNat_ofNat']
 omega
theorem valD_digs : ∀ (f u:Nat),u < 10 ^ f → valD (digsF f u) = u
 | 0,u,h=>by
  have:u = 0:=by simpa using h
  subst this; rfl
 | f + 1,u,h=>by
  rw [digsF]
  by_cases hu:u < 10
  ·rw [if_pos hu]
   have:=valD_snoc [] (UInt8.ofNat (48 + u))
   rw [List.nil_append] at this
   rw [this,dig_nat hu]
   simp [valD]
  ·rw [if_neg hu,valD_snoc,valD_digs f (u / 10) (by rw [Nat.pow_succ] at h; omega),dig_nat (Nat.mod_lt _ (by omega))]
   omega
theorem digs_byte : ∀ (f u:Nat) (b:UInt8),b ∈ digsF f u → 48 ≤ b.toNat ∧ b.toNat ≤ 57
 | 0,u,b,h=>by cases h
 | f + 1,u,b,h=>by
  rw [digsF] at h
  by_cases hu:u < 10
  ·rw [if_pos hu,List.mem_singleton] at h
   subst h
   rw [dig_nat hu]; omega
  ·rw [if_neg hu] at h
   rcases List.mem_append.1 h with h | h
   ·exact digs_byte f _ b h
   ·rw [List.mem_singleton] at h
    subst h
    rw [dig_nat (Nat.mod_lt _ (by omega))]
    have:=Nat.mod_lt u (show 0 < 10 by omega)
    omega
theorem digs_len : ∀ (f u:Nat),(digsF f u).length ≤ f
 | 0,u=>Nat.le_refl _
 | f + 1,u=>by
  rw [digsF]
  split
  ·simp
  ·have:=digs_len f (u / 10)
   simp only [List.length_append,List.length_cons,List.length_nil]
   omega
def itoaL (n:Int):List UInt8:=if n < 0 then 45 :: digsF 20 n.natAbs else digsF 20 n.toNat
theorem itoaL_byte {n:Int} {b:UInt8} (h:b ∈ itoaL n):b.toNat = 45 ∨ (48 ≤ b.toNat ∧ b.toNat ≤ 57):=by
 unfold itoaL at h
 split at h
 ·rcases List.mem_cons.1 h with rfl | h
  ·exact .inl rfl
  ·exact .inr (digs_byte _ _ _ h)
 ·exact .inr (digs_byte _ _ _ h)
theorem itoaL_len (n:Int):(itoaL n).length ≤ 21:=by
 unfold itoaL
 split
 ·have:=digs_len 20 n.natAbs
  rw [List.length_cons]; omega
 ·have:=digs_len 20 n.toNat; omega
theorem itoaL_inj {a b:Int} (ha:InK .i64 a) (hb:InK .i64 b) (h:itoaL a = itoaL b):a = b:=by
 obtain ⟨a1,a2⟩:=ha
 obtain ⟨b1,b2⟩:=hb
 have e1:IntKind.i64.min = -9223372036854775808:=by decide
 have e2:IntKind.i64.max = 9223372036854775807:=by decide
 rw [e1] at a1 b1; rw [e2] at a2 b2
 unfold itoaL at h
 by_cases h1:a < 0 <;> by_cases h2:b < 0
 ·rw [if_pos h1,if_pos h2] at h
  have h3:=congrArg valD (List.cons.inj h).2
  rw [valD_digs _ _ (by omega),valD_digs _ _ (by omega)] at h3
  omega
 ·rw [if_pos h1,if_neg h2] at h
  have:(45:UInt8) ∈ digsF 20 b.toNat:=by rw [← h]; exact List.mem_cons_self
  have:=(digs_byte _ _ _ this).1
  exact absurd this (by decide)
 ·rw [if_neg h1,if_pos h2] at h
  have:(45:UInt8) ∈ digsF 20 a.toNat:=by rw [h]; exact List.mem_cons_self
  have:=(digs_byte _ _ _ this).1
  exact absurd this (by decide)
 ·rw [if_neg h1,if_neg h2] at h
  have h3:=congrArg valD h
  rw [valD_digs _ _ (by omega),valD_digs _ _ (by omega)] at h3
  omega
theorem cut_at {c:UInt8} : ∀ {x y t u:List UInt8},(∀ b ∈ x,b ≠ c) → (∀ b ∈ y,b ≠ c) → (t = [] ∨ ∃ r,t = c :: r) → (u = [] ∨ ∃ r,u = c :: r) → x ++ t = y ++ u → x = y ∧ t = u
 | [],[],t,u,_,_,_,_,h=>⟨rfl,by simpa using h⟩
 | [],b :: y,t,u,_,hy,ht,_,h=>by
  rcases ht with rfl | ⟨r,rfl⟩
  ·simp at h
  ·simp only [List.nil_append,List.cons_append,List.cons.injEq] at h
   exact absurd h.1.symm (hy b (by simp))
 | a :: x,[],t,u,hx,_,_,hu,h=>by
  rcases hu with rfl | ⟨r,rfl⟩
  ·simp at h
  ·simp only [List.nil_append,List.cons_append,List.cons.injEq] at h
   exact absurd h.1 (hx a (by simp))
 | a :: x,b :: y,t,u,hx,hy,ht,hu,h=>by
  simp only [List.cons_append,List.cons.injEq] at h
  obtain ⟨h1,h2⟩:=cut_at (fun b hb=>hx b (by simp [hb])) (fun b hb=>hy b (by simp [hb])) ht hu h.2
  exact ⟨by rw [h.1,h1],h2⟩
theorem joinTail_start (r:List (List UInt8)):Lib.joinTail [44] r = [] ∨ ∃ t,Lib.joinTail [44] r = 44 :: t:=by
 cases r with
 | nil=>exact .inl rfl
 | cons y r=>exact .inr ⟨_,rfl⟩
theorem joinTail_inj : ∀ {r s:List (List UInt8)},(∀ x ∈ r,∀ b ∈ x,b ≠ (44:UInt8)) → (∀ x ∈ s,∀ b ∈ x,b ≠ (44:UInt8)) → Lib.joinTail [44] r = Lib.joinTail [44] s → r = s
 | [],[],_,_,_=>rfl
 | [],y :: s,_,_,h=>by simp [Lib.joinTail] at h
 | x :: r,[],_,_,h=>by simp [Lib.joinTail] at h
 | x :: r,y :: s,hr,hs,h=>by
  have h':x ++ Lib.joinTail [44] r = y ++ Lib.joinTail [44] s:=by simpa [Lib.joinTail] using h
  obtain ⟨h1,h2⟩:=cut_at (hr x (by simp)) (hs y (by simp)) (joinTail_start r) (joinTail_start s) h'
  rw [h1,joinTail_inj (fun z hz=>hr z (by simp [hz])) (fun z hz=>hs z (by simp [hz])) h2]
theorem join_inj {r s:List (List UInt8)} (hr0:r ≠ []) (hs0:s ≠ []) (hr : ∀ x ∈ r,∀ b ∈ x,b ≠ (44:UInt8)) (hs : ∀ x ∈ s,∀ b ∈ x,b ≠ (44:UInt8)) (h:Lib.join r [44] = Lib.join s [44]):r = s:=by
 cases r with
 | nil=>exact absurd rfl hr0
 | cons x r =>
  cases s with
  | nil=>exact absurd rfl hs0
  | cons y s =>
   rw [Lib.join_cons,Lib.join_cons] at h
   obtain ⟨h1,h2⟩:=cut_at (hr x (by simp)) (hs y (by simp)) (joinTail_start r) (joinTail_start s) h
   rw [h1,joinTail_inj (fun z hz=>hr z (by simp [hz])) (fun z hz=>hs z (by simp [hz])) h2]
def hopL (h:THop):List UInt8:=itoaL h.Iface ++ 32 :: digsF 20 h.Gate.toNat
theorem hopL_byte {h:THop} {b:UInt8} (hb:b ∈ hopL h):b ≠ 44:=by
 rintro rfl
 rcases List.mem_append.1 hb with hb | hb
 ·rcases itoaL_byte hb with h | h
  ·exact absurd h (by decide)
  ·exact absurd h.1 (by decide)
 ·rcases List.mem_cons.1 hb with hb | hb
  ·exact absurd hb (by decide)
  ·exact absurd (digs_byte _ _ _ hb).1 (by decide)
theorem hopL_inj {a b:THop} (ha:THop.ok a) (hb:THop.ok b) (h:hopL a = hopL b):a = b:=by
 have n32 : ∀ (n:Int),∀ b ∈ itoaL n,b ≠ (32:UInt8):=by
  rintro n b hb rfl
  rcases itoaL_byte hb with h | h
  ·exact absurd h (by decide)
  ·exact absurd h.1 (by decide)
 obtain ⟨h1,h2⟩:=cut_at (n32 _) (n32 _) (.inr ⟨_,rfl⟩) (.inr ⟨_,rfl⟩) h
 have h3:=congrArg valD (List.cons.inj h2).2
 obtain ⟨x,hx,hx2⟩:=u32_nat ha.2
 obtain ⟨y,hy,hy2⟩:=u32_nat hb.2
 rw [hx,hy,Int.toNat_natCast,Int.toNat_natCast,valD_digs _ _ (by omega),valD_digs _ _ (by omega)] at h3
 have h4:=itoaL_inj ha.1 hb.1 h1
 obtain ⟨a1,a2⟩:=a
 obtain ⟨b1,b2⟩:=b
 simp only at hx hy h4
 rw [h4,hx,hy,h3]
theorem hopL_len (h:THop):(hopL h).length ≤ 42:=by
 have h1:=itoaL_len h.Iface
 have h2:=digs_len 20 h.Gate.toNat
 simp only [hopL,List.length_append,List.length_cons]
 omega
def hopT (h:THop):ByteArray:=itoaS h.Iface ++ bstr [32] ++ fmtuS (IntKind.u64.wrap h.Gate)
theorem bytesOf_list (l:List UInt8):(bytesOf l).data.toList = l:=by simp [bytesOf]
theorem itoaS_L (n:Int):itoaS n = bytesOf (itoaL n):=rfl
theorem wrap_gate {h:THop} (ho:THop.ok h):IntKind.u64.wrap h.Gate = h.Gate:=by
 obtain ⟨x,hx,hx2⟩:=u32_nat ho.2
 rw [hx]
 have e:IntKind.u64.wrap (x:Int) = (x:Int) % 18446744073709551616:=rfl
 rw [e]
 omega
theorem hopT_list {h:THop} (ho:THop.ok h):(hopT h).data.toList = hopL h:=by
 unfold hopT
 rw [wrap_gate ho,itoaS_L]
 have e:(bstr [32]).data.toList = [32]:=rfl
 simp only [ByteArray.data_append,Array.toList_append,bytesOf_list,fmtuS,e,hopL,List.append_assoc,List.singleton_append]
theorem hopT_size {h:THop} (ho:THop.ok h):(hopT h).size ≤ 42:=by
 have e:(hopT h).size = (hopT h).data.toList.length:=rfl
 rw [e,hopT_list ho]
 exact hopL_len h
theorem text_l1 : ∀ (l:List THop) (out:List ByteArray),(∀ h ∈ l,THop.ok h) → out.length + l.length < 1099511627776 → F46l1 out l = some (out ++ l.map hopT)
 | [],out,_,_=>by simp [F46l1]
 | h :: l,out,ho,hl=>by
  have h1:=ho h (by simp)
  rw [F46l1]
  obtain ⟨a1,a2⟩:=h1.1
  have e1:IntKind.i64.min = -9223372036854775808:=by decide
  have e2:IntKind.i64.max = 9223372036854775807:=by decide
  rw [e1] at a1; rw [e2] at a2
  obtain ⟨x,hx,hx2⟩:=u32_nat h1.2
  have hI:itoaO h.Iface = some (itoaS h.Iface):=if_pos ⟨a1,a2⟩
  have hU:fmtuO (IntKind.u64.wrap h.Gate) 10 = some (fmtuS (IntKind.u64.wrap h.Gate)):=by
   unfold fmtuO
   rw [wrap_gate h1,if_pos ⟨by omega,by omega,rfl⟩]
  have hs:=hopT_size h1
  have hs2:(hopT h).size = (itoaS h.Iface ++ bstr [32]).size + (fmtuS (IntKind.u64.wrap h.Gate)).size:=by unfold hopT; exact ByteArray.size_append
  have hs3:(itoaS h.Iface ++ bstr [32]).size = (itoaS h.Iface).size + (bstr [32]).size:=ByteArray.size_append
  rw [hI,obS]
  have c1:decide ((itoaS h.Iface).size + (bstr [32]).size ≤ 9223372036854775807) = true:=decide_eq_true (by omega)
  rw [c1,cond_true,hU,obS]
  have c2:decide ((itoaS h.Iface ++ bstr [32]).size + (fmtuS (IntKind.u64.wrap h.Gate)).size ≤ 9223372036854775807) = true:=decide_eq_true (by omega)
  rw [List.length_cons] at hl
  have c3:decide (out.length < 1099511627776) = true:=decide_eq_true (by omega)
  rw [c2,cond_true,c3,cond_true,text_l1 l _ (fun y hy=>ho y (by simp [hy])) (by simp only [List.length_append,List.length_cons,List.length_nil]; omega)]
  simp [hopT]
def txt (l:List THop):ByteArray:=joinS (l.map hopT) (bstr [44])
theorem txt_list {l:List THop} (ho : ∀ h ∈ l,THop.ok h):(txt l).data.toList = Lib.join (l.map hopL) [44]:=by
 unfold txt joinS
 rw [bytesOf_list,List.map_map]
 have e:(bstr [44]).data.toList = [44]:=rfl
 rw [e]
 congr 1
 exact List.map_congr_left fun h hh=>hopT_list (ho h hh)
theorem lens_hop : ∀ (l:List THop),Lib.lens (l.map hopL) ≤ 42 * l.length
 | []=>Nat.le_refl _
 | h :: l=>by
  have h1:=hopL_len h
  have h2:=lens_hop l
  simp only [Lib.lens,List.map_cons,List.sum_cons,List.length_cons] at h2 ⊢
  omega
theorem txt_size {l:List THop} (ho : ∀ h ∈ l,THop.ok h):(txt l).size ≤ 43 * l.length:=by
 have e:(txt l).size = (txt l).data.toList.length:=rfl
 rw [e,txt_list ho]
 cases l with
 | nil=>rw [List.map_nil,Lib.join_nil]; exact Nat.le_refl _
 | cons x l =>
  have:=lens_hop (x :: l)
  rw [List.map_cons,Lib.join_length,← List.map_cons]
  simp only [List.length_map,List.length_cons,List.length_nil] at this ⊢
  omega
theorem text_eq {l:List THop} (ho : ∀ h ∈ l,THop.ok h) (hl:l.length ≤ 1000):F46 l = some (txt l):=by
 unfold F46
 rw [text_l1 l [] ho (by simp; omega),List.nil_append,obS]
 have hj:joinO (l.map hopT) (bstr [44]) = some (txt l):=by
  unfold joinO
  have:=txt_size ho
  rw [if_pos ⟨by rw [List.length_map]; omega,by change (txt l).size ≤ _; omega⟩]
  rfl
 rw [hj,obS]
theorem txt_inj {l m:List THop} (hl0:l ≠ []) (hm0:m ≠ []) (hl : ∀ h ∈ l,THop.ok h) (hm : ∀ h ∈ m,THop.ok h) (h:txt l = txt m):l = m:=by
 have h1:=congrArg (fun x=>x.data.toList) h
 simp only [txt_list hl,txt_list hm] at h1
 have h2:=join_inj (by simpa using hl0) (by simpa using hm0) (by
  intro x hx b hb
  obtain ⟨y,_,rfl⟩:=List.mem_map.1 hx
  exact hopL_byte hb) (by
  intro x hx b hb
  obtain ⟨y,_,rfl⟩:=List.mem_map.1 hx
  exact hopL_byte hb) h1
 clear h1 h hl0 hm0
 induction l generalizing m with
 | nil =>
  cases m with
  | nil=>rfl
  | cons y m=>simp at h2
 | cons x l ih =>
  cases m with
  | nil=>simp at h2
  | cons y m =>
   simp only [List.map_cons,List.cons.injEq] at h2
   rw [hopL_inj (hl x (by simp)) (hm y (by simp)) h2.1,ih (m:=m) (fun z hz=>hl z (by simp [hz])) (fun z hz=>hm z (by simp [hz])) h2.2]
end Go.Proofs.YtakallenldpkiaaGreatDoor.Abs
end
section
set_option linter.unusedVariables false
set_option linter.unusedSimpArgs false
namespace Go.Proofs.YtakallenldpkiaaGreatDoor.Abs
open Go
theorem keyEq {k k':ByteArray}:(k == k') = decide (k = k'):=by
 obtain ⟨a⟩:=k
 obtain ⟨b⟩:=k'
 change (a == b) = _
 by_cases h:a = b
 ·rw [decide_eq_true (by rw [h])]; exact beq_iff_eq.2 h
 ·rw [decide_eq_false (fun e=>h (ByteArray.mk.inj e))]; exact beq_eq_false_iff_ne.2 h
theorem findEQ_mem {β:Type} {k:ByteArray} : ∀ {es:List (Nat × ByteArray × β)} {s:Nat} {x:β},findEQ k es = some (s,x) → (s,k,x) ∈ es
 | [],s,x,h=>by cases h
 | (s',k',y) :: r,s,x,h=>by
  rw [findEQ,keyEq] at h
  by_cases hk:k = k'
  ·rw [decide_eq_true hk,cond_true] at h
   injection h with h
   injection h with h1 h2
   subst h1 h2 hk
   exact List.mem_cons_self
  ·rw [decide_eq_false hk,cond_false] at h
   exact List.mem_cons_of_mem _ (findEQ_mem h)
theorem findEQ_none {β:Type} {k:ByteArray} : ∀ {es:List (Nat × ByteArray × β)},findEQ k es = none → ∀ e ∈ es,e.2.1 ≠ k
 | [],h,e,he=>by cases he
 | (s',k',y) :: r,h,e,he=>by
  rw [findEQ,keyEq] at h
  by_cases hk:k = k'
  ·rw [decide_eq_true hk,cond_true] at h; cases h
  ·rw [decide_eq_false hk,cond_false] at h
   rcases List.mem_cons.1 he with rfl | he
   ·exact fun e=>hk e.symm
   ·exact findEQ_none h e he
theorem delEQ_mem {β:Type} {k:ByteArray} : ∀ {es:List (Nat × ByteArray × β)},(es.map (·.2.1)).Nodup → ∀ e,e ∈ delEQ k es ↔ e ∈ es ∧ e.2.1 ≠ k
 | [],_,e=>by simp [delEQ]
 | (s',k',y) :: r,h,e=>by
  rw [List.map_cons,List.nodup_cons] at h
  rw [delEQ,keyEq]
  by_cases hk:k = k'
  ·rw [decide_eq_true hk,cond_true]
   subst hk
   constructor
   ·intro he
    exact ⟨List.mem_cons_of_mem _ he,fun hq=>h.1 (List.mem_map.2 ⟨e,he,hq⟩)⟩
   ·rintro ⟨he,hne⟩
    rcases List.mem_cons.1 he with rfl | he
    ·exact absurd rfl hne
    ·exact he
  ·rw [decide_eq_false hk,cond_false]
   have ih:=delEQ_mem (k:=k) h.2 e
   rw [List.mem_cons,List.mem_cons,ih]
   constructor
   ·rintro (rfl | ⟨h1,h2⟩)
    ·exact ⟨.inl rfl,fun e=>hk e.symm⟩
    ·exact ⟨.inr h1,h2⟩
   ·rintro ⟨rfl | h1,h2⟩
    ·exact .inl rfl
    ·exact .inr ⟨h1,h2⟩
theorem delEQ_sub {β:Type} {k:ByteArray} : ∀ (es:List (Nat × ByteArray × β)),(delEQ k es).Sublist es
 | []=>List.Sublist.refl _
 | (s',k',y) :: r=>by
  rw [delEQ]
  cases (k == k')
  ·exact (delEQ_sub r).cons_cons _
  ·exact List.sublist_cons_self _ _
theorem keys_one {β:Type} : ∀ {es:List (Nat × ByteArray × β)},(es.map (·.2.1)).Nodup → ∀ {a b},a ∈ es → b ∈ es → a.2.1 = b.2.1 → a = b
 | [],_,a,b,ha,_,_=>by cases ha
 | x :: r,h,a,b,ha,hb,e=>by
  rw [List.map_cons,List.nodup_cons] at h
  rcases List.mem_cons.1 ha with h1 | h1
  ·rcases List.mem_cons.1 hb with h2 | h2
   ·rw [h1,h2]
   ·exact absurd (List.mem_map.2 ⟨b,h2,by rw [← e,h1]⟩) h.1
  ·rcases List.mem_cons.1 hb with h2 | h2
   ·exact absurd (List.mem_map.2 ⟨a,h1,by rw [e,h2]⟩) h.1
   ·exact keys_one h.2 h1 h2 e
theorem putEQ_new {β:Type} {c:Nat} {k:ByteArray} {z x:β} : ∀ {es:List (Nat × ByteArray × β)},(∀ e ∈ es,e.1 < c) → putEQ (c:Int) x (es ++ [(c,k,z)]) = es ++ [(c,k,x)]
 | [],_=>by simp [putEQ]
 | e :: r,h=>by
  have he : ¬ ((e.1:Int) = (c:Int)):=by have:=h e (by simp); omega
  rw [List.cons_append,putEQ,decide_eq_false he,cond_false,putEQ_new (fun y hy=>h y (by simp [hy])),List.cons_append]
theorem hasEQ_new {β:Type} {c:Nat} {k:ByteArray} {z:β} : ∀ {es:List (Nat × ByteArray × β)},hasEQ (c:Int) (es ++ [(c,k,z)]) = true
 | []=>by simp [hasEQ]
 | e :: r=>by
  rw [List.cons_append,hasEQ,hasEQ_new]
  cases decide ((e.1:Int) = c) <;> rfl
def hopsAt (S:List TGroup) (k:Nat):List THop:=((S[k]?).map (·.hops)).getD []
structure GI (S:List TGroup) (A:QMap Int) (c:Nat → Nat):Prop where
 len : ∀ k,c k ≠ 0 → k < S.length
 many : ∀ k g,S[k]? = some g → g.many = (c k:Int)
 grp : ∀ k g,S[k]? = some g → c k ≠ 0 → 1 ≤ g.hops.length ∧ g.hops.length ≤ 8 ∧ (∀ h ∈ g.hops,THop.ok h) ∧ g.text = txt g.hops
 fnd : ∀ k g,S[k]? = some g → c k ≠ 0 → ∃ s,(s,g.text,(k:Int)) ∈ A.2
 ent : ∀ e ∈ A.2,∃ (k:Nat) (g:TGroup),e.2.2 = (k:Int) ∧ c k ≠ 0 ∧ S[k]? = some g ∧ g.text = e.2.1
 keys:(A.2.map (·.2.1)).Nodup
 stm : ∀ e ∈ A.2,e.1 < A.1
theorem GI.get {S:List TGroup} {A:QMap Int} {c:Nat → Nat} (h:GI S A c) {k:Nat} (hk:c k ≠ 0) : ∃ g,S[k]? = some g:=⟨_,List.getElem?_eq_getElem (h.len k hk)⟩
theorem get_set {S:List TGroup} {k j:Nat} {x:TGroup} (hk:k < S.length):(S.set k x)[j]? = if j = k then some x else S[j]?:=by
 by_cases h:j = k
 ·subst h; rw [if_pos rfl,List.getElem?_set_self hk]
 ·rw [if_neg h,List.getElem?_set_ne (Ne.symm h)]
theorem GI.turn {S:List TGroup} {A:QMap Int} {c:Nat → Nat} (h:GI S A c) {k n:Nat} {g:TGroup} (hg:S[k]? = some g) (hk:c k ≠ 0) (hn:n ≠ 0) :
  GI (S.set k ⟨g.hops,g.text,(n:Int)⟩) A (fun j=>if j = k then n else c j) ∧ ∀ j,hopsAt (S.set k ⟨g.hops,g.text,(n:Int)⟩) j = hopsAt S j:=by
 have hlt:=h.len k hk
 refine ⟨⟨fun j hj=>?_,fun j x hx=>?_,fun j x hx hj=>?_,fun j x hx hj=>?_,fun e he=>?_,h.keys,h.stm⟩,fun j=>?_⟩
 ·rw [List.length_set]
  by_cases hjk:j = k
  ·rw [hjk]; exact hlt
  ·simp only [hjk,if_false] at hj; exact h.len j hj
 ·rw [get_set hlt] at hx
  by_cases hjk:j = k
  ·simp only [hjk,if_true] at hx ⊢
   injection hx with hx; subst hx; rfl
  ·simp only [hjk,if_false] at hx ⊢; exact h.many j x hx
 ·rw [get_set hlt] at hx
  by_cases hjk:j = k
  ·simp only [hjk,if_true] at hx
   injection hx with hx; subst hx; exact h.grp k g hg hk
  ·simp only [hjk,if_false] at hx hj; exact h.grp j x hx hj
 ·rw [get_set hlt] at hx
  by_cases hjk:j = k
  ·simp only [hjk,if_true] at hx
   injection hx with hx; subst hx; rw [hjk]; exact h.fnd k g hg hk
  ·simp only [hjk,if_false] at hx hj; exact h.fnd j x hx hj
 ·obtain ⟨j,x,h1,h2,h3,h4⟩:=h.ent e he
  by_cases hjk:j = k
  ·subst hjk
   rw [hg] at h3; injection h3 with h3; subst h3
   exact ⟨j,⟨g.hops,g.text,(n:Int)⟩,h1,by simp [hn],by rw [get_set hlt,if_pos rfl],h4⟩
  ·exact ⟨j,x,h1,by simp [hjk,h2],by rw [get_set hlt,if_neg hjk]; exact h3,h4⟩
 ·unfold hopsAt
  rw [get_set hlt]
  by_cases hjk:j = k
  ·rw [if_pos hjk,hjk,hg]; rfl
  ·rw [if_neg hjk]
theorem GI.gone {S:List TGroup} {A:QMap Int} {c:Nat → Nat} (h:GI S A c) {k:Nat} {g:TGroup} (hg:S[k]? = some g) (hk:c k ≠ 0) :
  GI (S.set k ⟨[],bstr [],0⟩) (qdel A g.text) (fun j=>if j = k then 0 else c j) ∧ ∀ j,j ≠ k → hopsAt (S.set k ⟨[],bstr [],0⟩) j = hopsAt S j:=by
 have hlt:=h.len k hk
 have hmem:=fun e=>delEQ_mem (k:=g.text) h.keys e
 refine ⟨⟨fun j hj=>?_,fun j x hx=>?_,fun j x hx hj=>?_,fun j x hx hj=>?_,fun e he=>?_,(List.Sublist.map _ (delEQ_sub A.2)).nodup h.keys,fun e he=>h.stm e ((hmem e).1 he).1⟩,fun j hjk=>?_⟩
 ·rw [List.length_set]
  by_cases hjk:j = k
  ·simp only [hjk,if_true] at hj; exact absurd rfl hj
  ·simp only [hjk,if_false] at hj; exact h.len j hj
 ·rw [get_set hlt] at hx
  by_cases hjk:j = k
  ·simp only [hjk,if_true] at hx ⊢
   injection hx with hx; subst hx; rfl
  ·simp only [hjk,if_false] at hx ⊢; exact h.many j x hx
 ·rw [get_set hlt] at hx
  by_cases hjk:j = k
  ·simp only [hjk,if_true] at hj; exact absurd rfl hj
  ·simp only [hjk,if_false] at hx hj; exact h.grp j x hx hj
 ·rw [get_set hlt] at hx
  by_cases hjk:j = k
  ·simp only [hjk,if_true] at hj; exact absurd rfl hj
  ·simp only [hjk,if_false] at hx hj
   obtain ⟨s,hs⟩:=h.fnd j x hx hj
   refine ⟨s,(hmem _).2 ⟨hs,fun ht=>?_⟩⟩
   obtain ⟨s',hs'⟩:=h.fnd k g hg hk
   have:=keys_one h.keys hs hs' ht
   injection this with _ this
   injection this with _ this
   exact hjk (by omega)
 ·obtain ⟨he,hne⟩:=(hmem e).1 he
  obtain ⟨j,x,h1,h2,h3,h4⟩:=h.ent e he
  have hjk:j ≠ k:=by
   rintro rfl
   rw [hg] at h3; injection h3 with h3; subst h3
   exact hne h4.symm
  exact ⟨j,x,h1,by simp [hjk,h2],by rw [get_set hlt,if_neg hjk]; exact h3,h4⟩
 ·unfold hopsAt
  rw [get_set hlt,if_neg hjk]
theorem GI.grow {S S':List TGroup} {A:QMap Int} {c:Nat → Nat} (h:GI S A c) {k:Nat} {l:List THop} (hl1:1 ≤ l.length) (hl8:l.length ≤ 8) (ho : ∀ x ∈ l,THop.ok x) (hk:c k = 0) (hnew : ∀ e ∈ A.2,e.2.1 ≠ txt l)
  (hS : ∀ j,S'[j]? = if j = k then some ⟨l,txt l,1⟩ else S[j]?) :
  GI S' (A.1 + 1,A.2 ++ [(A.1,txt l,(k:Int))]) (fun j=>if j = k then 1 else c j) ∧ hopsAt S' k = l ∧ ∀ j,c j ≠ 0 → hopsAt S' j = hopsAt S j:=by
 refine ⟨⟨fun j hj=>?_,fun j x hx=>?_,fun j x hx hj=>?_,fun j x hx hj=>?_,fun e he=>?_,?_,fun e he=>?_⟩,?_,fun j hj=>?_⟩
 ·have:S'[j]? ≠ none:=by
   rw [hS]
   by_cases hjk:j = k
   ·rw [if_pos hjk]; exact fun h=>by cases h
   ·rw [if_neg hjk]
    simp only [hjk,if_false] at hj
    obtain ⟨g,hg⟩:=h.get hj
    rw [hg]; exact fun h=>by cases h
  rcases Nat.lt_or_ge j S'.length with h1 | h1
  ·exact h1
  ·exact absurd (List.getElem?_eq_none h1) this
 ·rw [hS] at hx
  by_cases hjk:j = k
  ·simp only [hjk,if_true] at hx ⊢
   injection hx with hx; subst hx; rfl
  ·simp only [hjk,if_false] at hx ⊢; exact h.many j x hx
 ·rw [hS] at hx
  by_cases hjk:j = k
  ·simp only [hjk,if_true] at hx
   injection hx with hx; subst hx; exact ⟨hl1,hl8,ho,rfl⟩
  ·simp only [hjk,if_false] at hx hj; exact h.grp j x hx hj
 ·rw [hS] at hx
  by_cases hjk:j = k
  ·simp only [hjk,if_true] at hx
   injection hx with hx; subst hx; rw [hjk]; exact ⟨A.1,by simp⟩
  ·simp only [hjk,if_false] at hx hj
   obtain ⟨s,hs⟩:=h.fnd j x hx hj
   exact ⟨s,List.mem_append_left _ hs⟩
 ·rcases List.mem_append.1 he with he | he
  ·obtain ⟨j,x,h1,h2,h3,h4⟩:=h.ent e he
   have hjk:j ≠ k:=fun e=>h2 (e ▸ hk)
   exact ⟨j,x,h1,by simp [hjk,h2],by rw [hS,if_neg hjk]; exact h3,h4⟩
  ·rw [List.mem_singleton] at he
   subst he
   exact ⟨k,⟨l,txt l,1⟩,rfl,by simp,by rw [hS,if_pos rfl],rfl⟩
 ·simp only [List.map_append,List.map_cons,List.map_nil]
  rw [List.nodup_append]
  refine ⟨h.keys,by simp,fun a ha b hb=>?_⟩
  rw [List.mem_singleton] at hb
  subst hb
  obtain ⟨e,he,rfl⟩:=List.mem_map.1 ha
  exact hnew e he
 ·rcases List.mem_append.1 he with he | he
  ·have:=h.stm e he; simp only; omega
  ·rw [List.mem_singleton] at he; subst he; simp only; omega
 ·unfold hopsAt
  rw [hS,if_pos rfl]; rfl
 ·have hjk:j ≠ k:=fun e=>hj (e ▸ hk)
  unfold hopsAt
  rw [hS,if_neg hjk]
theorem let_spec {T:TTrie} {S:List TGroup} {A:QMap Int} {c:Nat → Nat} (h:GI S A c) {k:Nat} (hk:c k ≠ 0) (hb:c k < 1000000000) :
  ∃ S' A',F33 ⟨T,S,A⟩ (k:Int) = some ⟨T,S',A'⟩ ∧ GI S' A' (fun j=>if j = k then c j - 1 else c j) ∧ S'.length = S.length ∧ ∀ j,(if j = k then c j - 1 else c j) ≠ 0 → hopsAt S' j = hopsAt S j:=by
 obtain ⟨g,hg⟩:=h.get hk
 have hm:=h.many k g hg
 have hw:IntKind.i64.wrap (g.many - 1) = ((c k - 1:Nat):Int):=by rw [hm,wi64 (by omega) (by omega)]; omega
 unfold F33
 simp only [getI_nat hg,obS,hw,Int.toNat_natCast]
 by_cases h1:c k = 1
 ·have hz:decide (((c k - 1:Nat):Int) = 0) = true:=decide_eq_true (by omega)
  rw [hz,cond_true]
  obtain ⟨h2,h3⟩:=h.gone hg hk
  rw [List.set_set]
  refine ⟨_,_,rfl,?_,by simp,fun j hj=>?_⟩
  ·have e:(fun j=>if j = k then c j - 1 else c j) = fun j=>if j = k then 0 else c j:=by
    funext j
    by_cases hjk:j = k
    ·simp only [hjk,if_true]; omega
    ·simp only [hjk,if_false]
   rw [e]; exact h2
  ·refine h3 j fun hjk=>?_
   simp only [hjk,if_true] at hj; omega
 ·have hz:decide (((c k - 1:Nat):Int) = 0) = false:=decide_eq_false (by omega)
  rw [hz,cond_false]
  obtain ⟨h2,h3⟩:=h.turn (n:=c k - 1) hg hk (by omega)
  refine ⟨_,_,rfl,?_,by simp,fun j _=>h3 j⟩
  have e:(fun j=>if j = k then c j - 1 else c j) = fun j=>if j = k then c k - 1 else c j:=by
   funext j
   by_cases hjk:j = k
   ·simp only [hjk,if_true]
   ·simp only [hjk,if_false]
  rw [e]; exact h2
theorem idx_l1 {hf:TGroup → Bool} (hh : ∀ y,hf y = decide (y.many = 0)) : ∀ (l:List TGroup) (i:Nat),F47l1 hf i l = some (.ok ()) ∨ ∃ j g,F47l1 hf i l = some (.error (((i + j:Nat)):Int)) ∧ l[j]? = some g ∧ g.many = 0
 | [],i=>.inl rfl
 | g :: l,i=>by
  rw [F47l1]
  by_cases h:g.many = 0
  ·right
   refine ⟨0,g,?_,rfl,h⟩
   simp only [hh,h,decide_true,cond_true,Nat.add_zero]
  ·simp only [hh,h,decide_false,cond_false]
   rcases idx_l1 hh l (i + 1) with h1 | ⟨j,x,h1,h2,h3⟩
   ·exact .inl h1
   ·exact .inr ⟨j + 1,x,by rw [h1,show i + 1 + j = i + (j + 1) by omega],by simpa using h2,h3⟩
theorem idx_spec (S:List TGroup):F47 S (fun y0=>F48 y0) = some (-1) ∨ ∃ (j:Nat) (g:TGroup),F47 S (fun y0=>F48 y0) = some (j:Int) ∧ S[j]? = some g ∧ g.many = 0:=by
 unfold F47
 rcases idx_l1 (hf:=fun y0=>F48 y0) (fun _=>rfl) S 0 with h | ⟨j,g,h1,h2,h3⟩
 ·left; rw [h]; rfl
 ·right
  refine ⟨j,g,?_,h2,h3⟩
  rw [h1,Nat.zero_add]; rfl
theorem hold_spec {T:TTrie} {S:List TGroup} {A:QMap Int} {c:Nat → Nat} (h:GI S A c) {l:List THop} (hl1:1 ≤ l.length) (hl8:l.length ≤ 8) (ho : ∀ x ∈ l,THop.ok x) (hb : ∀ k,c k < 1000000000) (hlen:S.length < 1000000000) :
  ∃ (k:Nat) (S':List TGroup) (A':QMap Int),F30 ⟨T,S,A⟩ l = some ((k:Int),⟨T,S',A'⟩) ∧ GI S' A' (fun j=>if j = k then c j + 1 else c j) ∧ hopsAt S' k = l ∧ (∀ j,c j ≠ 0 → hopsAt S' j = hopsAt S j) ∧ S'.length ≤ S.length + 1:=by
 have hl0:l ≠ []:=fun e=>by rw [e] at hl1; simp at hl1
 unfold F30
 rw [text_eq ho (by omega),obS]
 cases hf:findEQ (txt l) A.2 with
 | some sx =>
  obtain ⟨s,x⟩:=sx
  have hq:qlook A (txt l) = some x:=by simp [qlook,hf]
  obtain ⟨k,g,h1,h2,h3,h4⟩:=h.ent _ (findEQ_mem hf)
  simp only at h1 h4
  subst h1
  obtain ⟨g1,g2,g3,g4⟩:=h.grp k g h3 h2
  have hgl:g.hops = l:=txt_inj (fun e=>by rw [e] at g1; simp at g1) hl0 g3 ho (by rw [← g4,h4])
  have hw:IntKind.i64.wrap (g.many + 1) = ((c k + 1:Nat):Int):=by
   have:=hb k
   rw [h.many k g h3,wi64 (by omega) (by omega)]; omega
  obtain ⟨t1,t2⟩:=h.turn (n:=c k + 1) h3 h2 (by omega)
  simp only [hq,Option.isSome_some,cond_true,Option.getD_some,getI_nat h3,obS,hw,Int.toNat_natCast]
  refine ⟨k,_,_,rfl,?_,?_,fun j _=>t2 j,by simp⟩
  ·have e:(fun j=>if j = k then c j + 1 else c j) = fun j=>if j = k then c k + 1 else c j:=by
    funext j
    by_cases hjk:j = k
    ·simp only [hjk,if_true]
    ·simp only [hjk,if_false]
   rw [e]; exact t1
  ·rw [t2]; unfold hopsAt; rw [h3]; exact hgl
 | none =>
  have hq:qlook A (txt l) = none:=by simp [qlook,hf]
  have hnew:=findEQ_none hf
  have hst:qstamp A (txt l) = (A.1:Int):=by simp [qstamp,hf]
  have hen:qent A (txt l) 0 = (A.1 + 1,A.2 ++ [(A.1,txt l,0)]):=by simp [qent,hf]
  have hhas:qhas (A.1 + 1,A.2 ++ [(A.1,txt l,(0:Int))]) (A.1:Int) = true:=hasEQ_new
  have hput : ∀ x:Int,qput (A.1 + 1,A.2 ++ [(A.1,txt l,(0:Int))]) (A.1:Int) x = (A.1 + 1,A.2 ++ [(A.1,txt l,x)]):=fun x=>by
   unfold qput
   rw [putEQ_new h.stm]
  have hw1:IntKind.i64.wrap (0 + 1) = 1:=by decide
  simp only [hq,Option.isSome_none,cond_false]
  have fin : ∀ (k:Nat) (S':List TGroup),c k = 0 → (∀ j,S'[j]? = if j = k then some ⟨l,txt l,1⟩ else S[j]?) → S'.length ≤ S.length + 1 →
    ∃ (k':Nat) (S'':List TGroup) (A':QMap Int),some ((k:Int),(⟨T,S',(A.1 + 1,A.2 ++ [(A.1,txt l,(k:Int))])⟩ : TFib)) = some ((k':Int),⟨T,S'',A'⟩) ∧ GI S'' A' (fun j=>if j = k' then c j + 1 else c j) ∧ hopsAt S'' k' = l ∧ (∀ j,c j ≠ 0 → hopsAt S'' j = hopsAt S j) ∧ S''.length ≤ S.length + 1:=by
   intro k S' hk hS hL
   obtain ⟨t1,t2,t3⟩:=h.grow hl1 hl8 ho hk hnew hS
   refine ⟨k,S',_,rfl,?_,t2,t3,hL⟩
   have e:(fun j=>if j = k then c j + 1 else c j) = fun j=>if j = k then 1 else c j:=by
    funext j
    by_cases hjk:j = k
    ·simp only [hjk,if_true,hk]
    ·simp only [hjk,if_false]
   rw [e]; exact t1
  rcases idx_spec S with hi | ⟨k,g,hi,hg,hm⟩
  ·rw [hi,obS]
   have c1:decide (S.length < 1099511627776) = true:=decide_eq_true (by omega)
   have hg:(S ++ [(⟨[],bstr [],0⟩ : TGroup)])[S.length]? = some ⟨[],bstr [],0⟩:=by rw [List.getElem?_append_right (Nat.le_refl _)]; simp
   simp only [show decide ((-1:Int) < 0) = true from rfl,cond_true,c1,getI_nat hg,obS,hst,hen,hhas,hput,decide_true,Int.toNat_natCast,List.set_set,hw1]
   refine fin S.length _ ?_ (fun j=>?_) (by simp)
   ·rcases Nat.eq_zero_or_pos (c S.length) with h0 | h0
    ·exact h0
    ·exact absurd (h.len S.length (by omega)) (by omega)
   ·rw [get_set (by simp)]
    by_cases hj:j = S.length
    ·rw [if_pos hj,if_pos hj]
    ·rw [if_neg hj,if_neg hj]
     rcases Nat.lt_or_ge j S.length with h1 | h1
     ·rw [List.getElem?_append_left h1]
     ·rw [List.getElem?_append_right h1,List.getElem?_eq_none h1,List.getElem?_eq_none (by simp; omega)]
  ·rw [hi,obS]
   have hlt:=(List.getElem?_eq_some_iff.1 hg).1
   have c1:decide ((k:Int) < 0) = false:=decide_eq_false (by omega)
   simp only [c1,cond_false,getI_nat hg,obS,hst,hen,hhas,hput,decide_true,cond_true,Int.toNat_natCast,List.set_set,hw1]
   refine fin k _ ?_ (fun j=>get_set hlt) (by simp)
   have:=h.many k g hg
   omega
end Go.Proofs.YtakallenldpkiaaGreatDoor.Abs
end
section
set_option linter.unusedVariables false
set_option linter.unusedSimpArgs false
namespace Go.Proofs.YtakallenldpkiaaGreatDoor.Abs
open Go
def cnt (m:List TEntry) (k:Nat):Nat:=m.countP fun e=>decide (e.V = (k:Int))
theorem cnt_cons (e:TEntry) (m:List TEntry) (k:Nat):cnt (e :: m) k = cnt m k + if e.V = (k:Int) then 1 else 0:=by
 unfold cnt
 rw [List.countP_cons]
 by_cases h:e.V = (k:Int)
 ·simp [h]
 ·simp [h]
theorem cnt_pos {m:List TEntry} {e:TEntry} {k:Nat} (he:e ∈ m) (hk:e.V = (k:Int)):cnt m k ≠ 0:=by
 have:=List.countP_pos_iff (p:=fun e:TEntry=>decide (e.V = (k:Int))) |>.2 ⟨e,he,decide_eq_true hk⟩
 unfold cnt; omega
theorem cnt_ex {m:List TEntry} {k:Nat} (h:cnt m k ≠ 0) : ∃ e ∈ m,e.V = (k:Int):=by
 obtain ⟨e,he,hk⟩:=List.countP_pos_iff (p:=fun e:TEntry=>decide (e.V = (k:Int))) |>.1 (Nat.pos_of_ne_zero h)
 exact ⟨e,he,of_decide_eq_true hk⟩
theorem cnt_le (m:List TEntry) (k:Nat):cnt m k ≤ m.length:=List.countP_le_length
theorem cnt_insE {p:qk} {n:Nat} (k:Nat) : ∀ {m:List TEntry},Srt m → hasP p m = false → cnt (insE p (n:Int) m) k = if k = n then cnt m k + 1 else cnt m k
 | [],_,_=>by
  rw [insE,cnt_cons]
  by_cases h:k = n
  ·subst h; simp
  ·rw [if_neg h,if_neg (by simp only; omega)]; rfl
 | x :: l,hs,hh=>by
  have hx : ¬ x.P = p:=fun e=>by simp [hasP,e] at hh
  have hl:hasP p l = false:=by
   have:hasP p (x :: l) = hasP p l:=by simp [hasP,hx]
   rw [← this]; exact hh
  rw [insE,if_neg hx]
  split
  ·rw [cnt_cons]
   by_cases h:k = n
   ·subst h; simp
   ·rw [if_neg h,if_neg (by simp only; omega)]; rfl
  ·rw [cnt_cons,cnt_insE k (srt_cons.1 hs).2 hl,cnt_cons]
   by_cases h:k = n
   ·rw [if_pos h,if_pos h]; omega
   ·rw [if_neg h,if_neg h]
theorem cnt_outP {p:qk} (k:Nat) : ∀ {m:List TEntry} {e:TEntry},Srt m → e ∈ m → e.P = p → cnt m k = cnt (outP p m) k + if e.V = (k:Int) then 1 else 0
 | [],e,_,h,_=>by cases h
 | x :: l,e,hs,he,hp=>by
  obtain ⟨h1,h2⟩:=srt_cons.1 hs
  by_cases hx:x.P = p
  ·have ee:outP p (x :: l) = outP p l:=by simp [outP,hx]
   rw [ee,outP_same (fun y hy=>by rw [← hx]; exact (h1 y hy).ne.symm)]
   rcases List.mem_cons.1 he with rfl | he
   ·exact cnt_cons _ _ _
   ·exact absurd (hx.trans hp.symm) (h1 e he).ne
  ·have ee:outP p (x :: l) = x :: outP p l:=by simp [outP,hx]
   rcases List.mem_cons.1 he with rfl | he
   ·exact absurd hp hx
   ·rw [ee,cnt_cons,cnt_cons,cnt_outP k h2 he hp]; omega
theorem insE_twice {p:qk} {v w:Int} : ∀ {m:List TEntry},insE p w (insE p v m) = insE p w m
 | []=>by simp only [insE,if_true]
 | x :: l=>by
  rw [insE]
  by_cases hx:x.P = p
  ·rw [if_pos hx,insE,if_pos rfl,insE,if_pos hx]
  ·rw [if_neg hx]
   by_cases hl:Fo29_crossroadsref03_Less p x.P = true
   ·rw [if_pos hl,insE,if_pos rfl,insE,if_neg hx,if_pos hl]
   ·rw [if_neg hl,insE,if_neg hx,if_neg hl,insE_twice,insE,if_neg hx,if_neg hl]
theorem hasP_insE {p:qk} {v:Int} : ∀ {m:List TEntry},hasP p (insE p v m) = true
 | []=>by simp [insE,hasP]
 | x :: l=>by
  rw [insE]
  split
  ·simp [hasP]
  ·split
   ·simp [hasP]
   ·have:=hasP_insE (p:=p) (v:=v) (m:=l)
    simp only [hasP,List.any_cons] at this ⊢
    rw [this,Bool.or_true]
def at_ (q:qk) (m:List TEntry):Option TEntry:=m.find? fun e=>decide (e.P = q)
theorem at_nil (q:qk):at_ q [] = none:=rfl
theorem at_cons (q:qk) (x:TEntry) (l:List TEntry):at_ q (x :: l) = if x.P = q then some x else at_ q l:=by
 unfold at_
 rw [List.find?_cons]
 by_cases h:x.P = q
 ·rw [if_pos h,decide_eq_true h]
 ·rw [if_neg h,decide_eq_false h]
theorem at_some {q:qk} {m:List TEntry} {e:TEntry} (h:at_ q m = some e):e ∈ m ∧ e.P = q:=by
 have h':m.find? (fun e=>decide (e.P = q)) = some e:=h
 exact ⟨List.mem_of_find?_eq_some h',by simpa using List.find?_some h'⟩
theorem at_insE {p q:qk} {v:Int} : ∀ {m:List TEntry},at_ q (insE p v m) = if q = p then some ⟨p,v⟩ else at_ q m
 | []=>by
  rw [insE,at_cons,at_nil]
  by_cases h:q = p
  ·rw [if_pos h,if_pos h.symm]
  ·rw [if_neg h,if_neg (fun e=>h e.symm)]
 | x :: l=>by
  rw [insE]
  by_cases hx:x.P = p
  ·rw [if_pos hx,at_cons,at_cons]
   by_cases h:q = p
   ·rw [if_pos h,if_pos h.symm]
   ·have h' : ¬ p = q:=fun e=>h e.symm
    have h2 : ¬ x.P = q:=fun e=>h' (hx ▸ e)
    rw [if_neg h,if_neg h',if_neg h2]
  ·rw [if_neg hx]
   split
   ·rw [at_cons]
    by_cases h:q = p
    ·rw [if_pos h,if_pos h.symm]
    ·rw [if_neg h,if_neg (fun e=>h e.symm)]
   ·rw [at_cons,at_cons,at_insE]
    by_cases h2:x.P = q
    ·rw [if_pos h2,if_neg (fun e=>hx (h2.trans e)),if_pos h2]
    ·rw [if_neg h2,if_neg h2]
theorem at_outP {p q:qk} : ∀ {m:List TEntry},at_ q (outP p m) = if q = p then none else at_ q m
 | []=>by
  have:outP p [] = []:=rfl
  rw [this,at_nil]
  split <;> rfl
 | x :: l=>by
  have ih:=at_outP (p:=p) (q:=q) (m:=l)
  by_cases hx:x.P = p
  ·have ee:outP p (x :: l) = outP p l:=by simp [outP,hx]
   rw [ee,ih,at_cons]
   by_cases h:q = p
   ·rw [if_pos h,if_pos h]
   ·rw [if_neg h,if_neg h,if_neg (fun e=>h (e.symm.trans hx))]
  ·have ee:outP p (x :: l) = x :: outP p l:=by simp [outP,hx]
   rw [ee,at_cons,at_cons,ih]
   by_cases h2:x.P = q
   ·rw [if_pos h2,if_neg (fun e=>hx (h2.trans e)),if_pos h2]
   ·rw [if_neg h2,if_neg h2]
theorem at_mem {m:List TEntry} {e:TEntry} (hs:Srt m) (he:e ∈ m):at_ e.P m = some e:=by
 induction m with
 | nil=>cases he
 | cons x l ih =>
  obtain ⟨h1,h2⟩:=srt_cons.1 hs
  rw [at_cons]
  rcases List.mem_cons.1 he with rfl | he
  ·rw [if_pos rfl]
  ·rw [if_neg (h1 e he).ne]
   exact ih h2 he
theorem at_hasP {m:List TEntry} {p:qk}:hasP p m = (at_ p m).isSome:=by
 rw [← hasP_getE]
 unfold gotE at_
 cases m.find? (fun e=>decide (e.P = p)) <;> rfl
structure FI (B M:Nat) (f:TFib) (m:List TEntry):Prop where
 sim:TSim B f.t m
 gi:GI f.sets f.atf (cnt m)
 val : ∀ e ∈ m,∃ k:Nat,e.V = (k:Int)
 sl:f.sets.length ≤ M
 ml:m.length ≤ M
theorem FI.mono {B B' M M':Nat} {f:TFib} {m:List TEntry} (h:FI B M f m) (hb:B ≤ B') (hm:M ≤ M'):FI B' M' f m :=
 ⟨h.sim.mono hb,h.gi,h.val,Nat.le_trans h.sl hm,Nat.le_trans h.ml hm⟩
theorem FI.new:FI 0 0 F5 [] :=
 ⟨sim_new,⟨fun k h=>absurd rfl h,fun k g h=>(by cases h),fun k g h=>(by cases h),fun k g h=>(by cases h),fun e he=>(by cases he),List.nodup_nil,fun e he=>(by cases he)⟩,fun e he=>(by cases he),Nat.le_refl _,Nat.le_refl _⟩
def vw (f:TFib) (m:List TEntry) (q:qk):Option (List THop):=(at_ q m).map fun e=>hopsAt f.sets e.V.toNat
section
variable {B M:Nat} {f:TFib} {m:List TEntry}
theorem FI.at_get (h:FI B M f m) {e:TEntry} (he:e ∈ m) : ∃ (k:Nat) (g:TGroup),e.V = (k:Int) ∧ cnt m k ≠ 0 ∧ f.sets[k]? = some g ∧ hopsAt f.sets k = g.hops:=by
 obtain ⟨k,hk⟩:=h.val e he
 obtain ⟨g,hg⟩:=h.gi.get (cnt_pos he hk)
 exact ⟨k,g,hk,cnt_pos he hk,hg,by unfold hopsAt; rw [hg]; rfl⟩
theorem drop_f (h:FI B M f m) (hB:B + 40 < 1099511627776) (hM:M < 100000) {p:qk} (hp:InK .u32 p.A) :
  ∃ f',F19 f p = some (hasP p m,f') ∧ FI (B + 40) M f' (outP p m) ∧ ∀ q,vw f' (outP p m) q = if q = p then none else vw f m q:=by
 unfold F19
 rw [get_sim h.sim hB hp,obS]
 have hol:(outP p m).length ≤ m.length:=List.length_filter_le _ _
 have hml:=h.ml
 cases hf:at_ p m with
 | none =>
  have hh:hasP p m = false:=by rw [at_hasP,hf]; rfl
  have hg:gotE m p = (0,false):=by
   unfold gotE
   rw [show m.find? (fun x=>decide (x.P = p)) = none from hf]
  rw [hg,hh]
  have ho:outP p m = m:=outP_same fun x hx e=>by
   rw [hasP_mem.2 ⟨x,hx,e⟩] at hh; cases hh
  refine ⟨f,rfl,by rw [ho]; exact h.mono (by omega) (Nat.le_refl _),fun q=>?_⟩
  rw [ho]
  by_cases hq:q = p
  ·rw [if_pos hq,hq]; unfold vw; rw [hf]; rfl
  ·rw [if_neg hq]
 | some e =>
  have hh:hasP p m = true:=by rw [at_hasP,hf]; rfl
  have hg:gotE m p = (e.V,true):=by
   unfold gotE
   rw [show m.find? (fun x=>decide (x.P = p)) = some e from hf]
  obtain ⟨hem,hep⟩:=at_some hf
  obtain ⟨k,g,hk,hc,hgk,_⟩:=h.at_get hem
  obtain ⟨T',e1,hS⟩:=drop_sim h.sim hB hp
  have hcl:=cnt_le m k
  obtain ⟨S',A',e2,hG,hL,hpre⟩:=let_spec (T:=T') h.gi hc (by omega)
  rw [hg,hh]
  simp only [cond_true]
  rw [e1,obS]
  simp only
  rw [hk,e2,obS]
  have hfun:(fun j=>if j = k then cnt m j - 1 else cnt m j) = cnt (outP p m):=by
   funext j
   have:=cnt_outP (p:=p) j h.sim.srt hem hep
   by_cases hj:j = k
   ·rw [if_pos hj]
    rw [if_pos (by rw [hk,hj])] at this
    omega
   ·rw [if_neg hj]
    rw [if_neg (by rw [hk]; omega)] at this
    omega
  rw [hfun] at hG
  refine ⟨_,rfl,⟨hS,hG,fun x hx=>h.val x (List.mem_filter.1 hx).1,by simp only; rw [hL]; exact h.sl,by omega⟩,fun q=>?_⟩
  unfold vw
  rw [at_outP]
  by_cases hq:q = p
  ·rw [if_pos hq,if_pos hq]; rfl
  ·rw [if_neg hq,if_neg hq]
   cases hx:at_ q m with
   | none=>rfl
   | some x =>
    obtain ⟨hxm,hxq⟩:=at_some hx
    obtain ⟨j,hj⟩:=h.val x hxm
    have hxo:x ∈ outP p m:=List.mem_filter.2 ⟨hxm,by simp [hxq,hq]⟩
    have h3:=hpre j (by
     have this:(if j = k then cnt m j - 1 else cnt m j) = cnt (outP p m) j:=congrFun hfun j
     rw [this]; exact cnt_pos hxo hj)
    simp only [Option.map_some,hj,Int.toNat_natCast,h3]
theorem equal_l1 (s:List THop) : ∀ (l:List THop) (i:Nat),s.length = i + l.length → F35l1 s i l = if s.drop i = l then some (.ok ()) else some (.error false)
 | [],i,h=>by
  rw [F35l1,if_pos (List.drop_eq_nil_of_le (by simp at h; omega))]
 | x :: l,i,h=>by
  rw [List.length_cons] at h
  have hlt:i < s.length:=by omega
  rw [F35l1,getI_nat (List.getElem?_eq_getElem hlt),obS,List.drop_eq_getElem_cons hlt]
  have he:(decide (x.Iface = s[i].Iface) && (decide (x.Gate = s[i].Gate) && true)) = decide (s[i] = x):=by
   generalize s[i] = y
   obtain ⟨x1,x2⟩:=x
   obtain ⟨y1,y2⟩:=y
   by_cases h1:x1 = y1 <;> by_cases h2:x2 = y2 <;> simp [h1,h2,eq_comm]
  simp only [he]
  by_cases hx:s[i] = x
  ·rw [decide_eq_true hx,cond_true,equal_l1 s l (i + 1) (by omega)]
   by_cases ht:s.drop (i + 1) = l
   ·rw [if_pos ht,if_pos (by rw [hx,ht])]
   ·rw [if_neg ht,if_neg (fun e=>ht (List.cons.inj e).2)]
  ·rw [decide_eq_false hx,cond_false,if_neg (fun e=>hx (List.cons.inj e).1)]
theorem equal_eq (a b:List THop):F35 a b = some (decide (a = b)):=by
 unfold F35
 by_cases h:a.length = b.length
 ·have hd:decide ((a.length:Int) = (b.length:Int)) = true:=decide_eq_true (by omega)
  rw [hd,cond_true,equal_l1 b a 0 (by omega),List.drop_zero]
  by_cases e:b = a
  ·rw [if_pos e,decide_eq_true e.symm]; rfl
  ·rw [if_neg e,decide_eq_false (fun q=>e q.symm)]; rfl
 ·have hd:decide ((a.length:Int) = (b.length:Int)) = false:=decide_eq_false (by omega)
  rw [hd,cond_false,decide_eq_false (fun e=>h (by rw [e]))]
theorem has_f (h:FI B M f m) (hB:B + 40 < 1099511627776) {p:qk} (hp:InK .u32 p.A) (l:List THop):F23 f p l = some (decide (vw f m p = some l)):=by
 unfold F23
 rw [get_sim h.sim hB hp,obS]
 unfold vw
 cases hf:at_ p m with
 | none =>
  have hg:gotE m p = (0,false):=by
   unfold gotE
   rw [show m.find? (fun x=>decide (x.P = p)) = none from hf]
  rw [hg]
  simp
 | some e =>
  have hg:gotE m p = (e.V,true):=by
   unfold gotE
   rw [show m.find? (fun x=>decide (x.P = p)) = some e from hf]
  obtain ⟨k,g,hk,hc,hgk,hh⟩:=h.at_get ((at_some hf).1)
  rw [hg]
  simp only [cond_true,hk,getI_nat hgk,obS,equal_eq,Option.map_some,Int.toNat_natCast,hh,Option.some.injEq]
def ordL (l:List THop):List THop:=compactQ (fun (a b:THop)=>(decide (a.Iface = b.Iface) && (decide (a.Gate = b.Gate) && true))) (sortQ F37 l)
theorem order_eq {l:List THop} (hl:l.length ≤ 1000):F24 l = some (ordL l):=by
 unfold F24
 have h2:(sortQ F37 l).length = l.length:=by unfold sortQ; simp only [List.length_mergeSort]
 rw [decide_eq_true (by omega),cond_true,h2,decide_eq_true (by omega),cond_true]
 rfl
theorem compact_mem {eq:THop → THop → Bool} : ∀ (n:Nat) (l:List THop),l.length ≤ n → (∀ x ∈ compactQ eq l,x ∈ l) ∧ (compactQ eq l).length ≤ l.length ∧ (l ≠ [] → compactQ eq l ≠ [])
 | _,[],_=>by simp [compactQ]
 | _,[x],_=>by simp [compactQ]
 | 0,x :: y :: r,h=>by simp at h
 | n + 1,x :: y :: r,h=>by
  rw [compactQ]
  simp only [List.length_cons] at h
  cases eq y x with
  | true =>
   obtain ⟨h1,h2,h3⟩:=compact_mem (eq:=eq) n (x :: r) (by simp only [List.length_cons]; omega)
   simp only [cond_true]
   refine ⟨fun z hz=>?_,by simp only [List.length_cons] at h2 ⊢; omega,fun _=>h3 (by simp)⟩
   rcases List.mem_cons.1 (h1 z hz) with rfl | h4
   ·simp
   ·simp [h4]
  | false =>
   obtain ⟨h1,h2,h3⟩:=compact_mem (eq:=eq) n (y :: r) (by simp only [List.length_cons]; omega)
   simp only [cond_false]
   refine ⟨fun z hz=>?_,by simp only [List.length_cons] at h2 ⊢; omega,fun _=>by simp⟩
   rcases List.mem_cons.1 hz with rfl | h4
   ·simp
   ·exact List.mem_cons_of_mem _ (h1 z h4)
theorem ordL_spec (l:List THop):(∀ x ∈ ordL l,x ∈ l) ∧ (ordL l).length ≤ l.length ∧ (l ≠ [] → ordL l ≠ []):=by
 obtain ⟨h1,h2,h3⟩:=compact_mem (eq:=fun (a b:THop)=>(decide (a.Iface = b.Iface) && (decide (a.Gate = b.Gate) && true))) _ (sortQ F37 l) (Nat.le_refl _)
 have hm : ∀ x,x ∈ sortQ F37 l ↔ x ∈ l:=fun x=>by unfold sortQ; exact List.mem_mergeSort
 have hn:(sortQ F37 l).length = l.length:=by unfold sortQ; simp only [List.length_mergeSort]
 refine ⟨fun x hx=>(hm x).1 (h1 x hx),by rw [← hn]; exact h2,fun hl=>h3 fun e=>hl ?_⟩
 rw [e] at hn
 exact List.length_eq_zero_iff.1 hn.symm
def good (p:qk) (l:List THop):Bool:=F28 p && (decide (1 ≤ (ordL l).length) && decide ((ordL l).length ≤ 8))
theorem put_f {p:qk} {k:Nat} {T:TTrie} {S':List TGroup} {A':QMap Int} {l:List THop} {B':Nat} (h:FI B M f (outP p m)) (hS:TSim B' T (insE p (k:Int) (outP p m))) (hG:GI S' A' (fun j=>if j = k then cnt (outP p m) j + 1 else cnt (outP p m) j))
  (hl:hopsAt S' k = l) (hpre : ∀ j,cnt (outP p m) j ≠ 0 → hopsAt S' j = hopsAt f.sets j) (hL:S'.length ≤ f.sets.length + 1) :
  FI B' (M + 1) ⟨T,S',A'⟩ (insE p (k:Int) (outP p m)) ∧ ∀ q,vw ⟨T,S',A'⟩ (insE p (k:Int) (outP p m)) q = if q = p then some l else vw f (outP p m) q:=by
 have hno:hasP p (outP p m) = false:=by rw [at_hasP,at_outP,if_pos rfl]; rfl
 have hsl:=h.sl
 have hml:=h.ml
 have hfun:(fun j=>if j = k then cnt (outP p m) j + 1 else cnt (outP p m) j) = cnt (insE p (k:Int) (outP p m)):=by
  funext j
  rw [cnt_insE j h.sim.srt hno]
 rw [hfun] at hG
 refine ⟨⟨hS,hG,fun e he=>?_,by simp only; omega,?_⟩,fun q=>?_⟩
 ·have h1:=at_mem hS.srt he
  rw [at_insE] at h1
  by_cases hq:e.P = p
  ·rw [if_pos hq] at h1
   injection h1 with h1
   exact ⟨k,by rw [← h1]⟩
  ·rw [if_neg hq] at h1
   exact h.val e (at_some h1).1
 ·rw [insE_len h.sim.srt]; split <;> omega
 ·unfold vw
  rw [at_insE]
  by_cases hq:q = p
  ·rw [if_pos hq,if_pos hq]
   simp only [Option.map_some,Int.toNat_natCast,hl]
  ·rw [if_neg hq,if_neg hq]
   cases hx:at_ q (outP p m) with
   | none=>rfl
   | some x =>
    have hxm:=(at_some hx).1
    obtain ⟨j,hj⟩:=h.val x hxm
    simp only [Option.map_some,hj,Int.toNat_natCast,hpre j (cnt_pos hxm hj)]
theorem set_f (h:FI B M f m) (hB:B + 200 < 1099511627776) (hM:M < 4000) {p:qk} (hp:InK .u32 p.A) {l:List THop} (hl:l.length ≤ 1000) (ho : ∀ x ∈ l,THop.ok x) :
  ∃ r f' m',F16 f p l = some (r,f') ∧ FI (B + 120) (M + 1) f' m' ∧ (r = if good p l = true then 0 else 1) ∧ ∀ q,vw f' m' q = if good p l = true ∧ q = p then some (ordL l) else vw f m q:=by
 obtain ⟨o1,o2,o3⟩:=ordL_spec l
 unfold F16
 rw [order_eq hl,obS]
 have bad:good p l = false → ∃ r f' m',some ((1:Int),f) = some (r,f') ∧ FI (B + 120) (M + 1) f' m' ∧ (r = if good p l = true then 0 else 1) ∧ ∀ q,vw f' m' q = if good p l = true ∧ q = p then some (ordL l) else vw f m q:=fun hb =>
  ⟨1,f,m,rfl,h.mono (by omega) (by omega),by rw [hb]; rfl,fun q=>by rw [hb,if_neg (fun e=>by cases e.1)]⟩
 simp only
 cases hm:F28 p with
 | false=>simp only [cond_false]; exact bad (by simp [good,hm])
 | true =>
  simp only [cond_true]
  by_cases h0:(ordL l).length = 0
  ·rw [decide_eq_true (by omega),cond_true]; exact bad (by simp [good,h0])
  rw [decide_eq_false (show ¬ ((ordL l).length:Int) = 0 by omega),cond_false]
  by_cases h8:8 < (ordL l).length
  ·rw [decide_eq_true (by omega),cond_true]; exact bad (by simp [good]; omega)
  rw [decide_eq_false (show ¬ (8:Int) < (ordL l).length by omega),cond_false]
  have hgd:good p l = true:=by simp [good,hm]; omega
  rw [has_f h (by omega) hp,obS]
  by_cases hv:vw f m p = some (ordL l)
  ·rw [decide_eq_true hv,cond_true]
   refine ⟨0,f,m,rfl,h.mono (by omega) (by omega),by rw [hgd]; rfl,fun q=>?_⟩
   by_cases hq:q = p
   ·rw [if_pos ⟨hgd,hq⟩,hq,hv]
   ·rw [if_neg (fun e=>hq e.2)]
  rw [decide_eq_false hv,cond_false]
  obtain ⟨f1,e1,h1,v1⟩:=drop_f h (by omega) (by omega) hp
  rw [e1,obS]
  simp only
  have hno:hasP p (outP p m) = false:=by rw [at_hasP,at_outP,if_pos rfl]; rfl
  have hcb : ∀ k,cnt (outP p m) k < 1000000000:=fun k=>by
   have:=cnt_le (outP p m) k
   have:=h1.ml
   omega
  have hsl:=h1.sl
  have hml:=h1.ml
  have hput : ∀ (v:Int),putEn (outP p m) p v = (insE p v (outP p m),0):=fun v=>by
   unfold putEn
   rw [hm,hno,decide_eq_false (show ¬ (5000:Int) ≤ ((outP p m).length:Int) by omega)]
   rfl
  have hvq : ∀ {f':TFib} {m':List TEntry},(∀ q,vw f' m' q = if q = p then some (ordL l) else vw f1 (outP p m) q) → ∀ q,vw f' m' q = if good p l = true ∧ q = p then some (ordL l) else vw f m q:=by
   intro f' m' hh q
   rw [hh q]
   by_cases hq:q = p
   ·rw [if_pos hq,if_pos ⟨hgd,hq⟩]
   ·rw [if_neg hq,if_neg (fun e=>hq e.2),v1 q,if_neg hq]
  cases hb:hasP p m with
  | true =>
   simp only [cond_true]
   obtain ⟨k,S',A',e2,g1,g2,g3,g4⟩:=hold_spec (T:=f1.t) h1.gi (l:=ordL l) (by omega) (by omega) (fun x hx=>ho x (o1 x hx)) hcb (by omega)
   have e2':F30 f1 (ordL l) = some ((k:Int),⟨f1.t,S',A'⟩):=e2
   rw [e2',obS]
   obtain ⟨T2,e3,hS⟩:=set_sim (v:=(k:Int)) h1.sim (by omega) hp
   rw [hput] at e3 hS
   simp only
   rw [e3,obS]
   obtain ⟨r1,r2⟩:=put_f h1 hS g1 g2 g3 g4
   exact ⟨0,_,_,rfl,r1.mono (by omega) (by omega),by rw [hgd]; rfl,hvq r2⟩
  | false =>
   simp only [cond_false]
   obtain ⟨T1,e3,hS1⟩:=set_sim (v:=0) h1.sim (by omega) hp
   rw [hput] at e3 hS1
   rw [e3,obS]
   simp only [decide_true,cond_true]
   obtain ⟨k,S',A',e2,g1,g2,g3,g4⟩:=hold_spec (T:=T1) h1.gi (l:=ordL l) (by omega) (by omega) (fun x hx=>ho x (o1 x hx)) hcb (by omega)
   rw [e2,obS]
   obtain ⟨T2,e4,hS⟩:=set_sim (v:=(k:Int)) hS1 (by omega) hp
   have hput2:putEn (insE p 0 (outP p m)) p (k:Int) = (insE p (k:Int) (outP p m),0):=by
    unfold putEn
    rw [hm,hasP_insE,insE_twice]
    rfl
   rw [hput2] at e4 hS
   simp only
   rw [e4,obS]
   obtain ⟨r1,r2⟩:=put_f h1 hS g1 g2 g3 g4
   exact ⟨0,_,_,rfl,r1.mono (by omega) (by omega),by rw [hgd]; rfl,hvq r2⟩
end
end Go.Proofs.YtakallenldpkiaaGreatDoor.Abs
end
section
set_option linter.unusedVariables false
set_option linter.unusedSimpArgs false
namespace Go.Proofs.YtakallenldpkiaaGreatDoor.Abs
open Go
abbrev eqP:qk → qk → Bool:=fun a b=>(decide (a.A = b.A) && (decide (a.N = b.N) && true))
theorem eqP_eq (a b:qk):eqP a b = decide (a = b):=peq a b
theorem findQ_setQ {L:List (qk × Bool)} {k q:qk} {y:Bool}:findQ eqP (setQ eqP L k y) q = if q = k then some y else findQ eqP L q:=by
 induction L with
 | nil =>
  simp only [setQ,findQ,eqP_eq]
  by_cases h:q = k
  ·rw [if_pos h,decide_eq_true h]; rfl
  ·rw [if_neg h,decide_eq_false h]; rfl
 | cons x L ih =>
  obtain ⟨k',z⟩:=x
  rw [setQ,eqP_eq]
  by_cases h1:k = k'
  ·rw [decide_eq_true h1,cond_true,findQ,findQ,eqP_eq,eqP_eq]
   by_cases h:q = k
   ·rw [if_pos h,decide_eq_true h]; rfl
   ·rw [if_neg h,decide_eq_false h,decide_eq_false (fun e=>h (e.trans h1.symm))]; rfl
  ·rw [decide_eq_false h1,cond_false,findQ,findQ,eqP_eq,ih]
   by_cases h:q = k'
   ·rw [decide_eq_true h,cond_true,cond_true,if_neg (fun e=>h1 (e.symm.trans h))]
   ·rw [decide_eq_false h,cond_false,cond_false]
theorem stays_l5 : ∀ (l:List qj) (L:List (qk × Bool)),∃ L',F10l5 L l = some L' ∧ ∀ q,findQ eqP L' q = if q ∈ l.map (·.P) then some true else findQ eqP L q
 | [],L=>⟨L,rfl,fun q=>by simp⟩
 | x :: l,L=>by
  rw [F10l5]
  obtain ⟨L',e,h⟩:=stays_l5 l (setQ eqP L x.P true)
  refine ⟨L',e,fun q=>?_⟩
  have hmc:q ∈ (x :: l).map (·.P) ↔ q = x.P ∨ q ∈ l.map (·.P):=by rw [List.map_cons,List.mem_cons]
  rw [h,findQ_setQ]
  by_cases h1:q ∈ l.map (·.P)
  ·rw [if_pos h1,if_pos (hmc.2 (.inr h1))]
  ·rw [if_neg h1]
   by_cases h2:q = x.P
   ·rw [if_pos h2,if_pos (hmc.2 (.inl h2))]
   ·rw [if_neg h2,if_neg (fun e=>(hmc.1 e).elim h2 h1)]
theorem l4_f {st:List (qk × Bool)} : ∀ (E:List TEntry) (out:Int) {B M:Nat} {f:TFib} {m:List TEntry},FI B M f m → B + 40 * E.length + 40 < 1099511627776 → M < 100000 → (∀ e ∈ E,InK .u32 e.P.A) →
  ∃ out' f' m',F10l4 st out f.t.root f.t.n f.atf f.sets f.t.l f.t.free E = some (out',f'.t.root,f'.t.n,f'.atf,f'.sets,f'.t.l,f'.t.free) ∧ FI (B + 40 * E.length) M f' m' ∧
   (∀ q,vw f' m' q = if q ∈ E.map (·.P) ∧ (findQ eqP st q).getD false = false then none else vw f m q) ∧ ((∀ e ∈ E,(findQ eqP st e.P).getD false = true) → out' = out)
 | [],out,B,M,f,m,h,_,_,_=>⟨out,f,m,rfl,h,fun q=>by simp,fun _=>rfl⟩
 | x :: E,out,B,M,f,m,h,hB,hM,hp=>by
  rw [List.length_cons] at hB
  have hE : ∀ e ∈ E,InK .u32 e.P.A:=fun e he=>hp e (by simp [he])
  rw [F10l4]
  cases hs:(findQ eqP st x.P).getD false with
  | true =>
   obtain ⟨o',f',m',e,h1,h2,h3⟩:=l4_f E out h (by omega) hM hE
   rw [cond_true]
   refine ⟨o',f',m',e,h1.mono (by rw [List.length_cons]; omega) (Nat.le_refl _),fun q=>?_,fun ha=>h3 fun e he=>ha e (by simp [he])⟩
   have hmc:q ∈ (x :: E).map (·.P) ↔ q = x.P ∨ q ∈ E.map (·.P):=by rw [List.map_cons,List.mem_cons]
   rw [h2]
   by_cases hq:q ∈ E.map (·.P) ∧ (findQ eqP st q).getD false = false
   ·rw [if_pos hq,if_pos ⟨hmc.2 (.inr hq.1),hq.2⟩]
   ·rw [if_neg hq,if_neg]
    rintro ⟨e1,e2⟩
    rcases hmc.1 e1 with e1 | e1
    ·rw [e1,hs] at e2; cases e2
    ·exact hq ⟨e1,e2⟩
  | false =>
   rw [cond_false]
   obtain ⟨f1,e1,g1,g2⟩:=drop_f h (by omega) hM (hp x (by simp))
   have e1':F19 ⟨⟨f.t.l,f.t.free,f.t.root,f.t.n⟩,f.sets,f.atf⟩ x.P = some (hasP x.P m,f1):=e1
   rw [e1',obS]
   obtain ⟨o',f',m',e,h1,h2,h3⟩:=l4_f E (IntKind.i64.wrap (out + 1)) g1 (by omega) hM hE
   refine ⟨o',f',m',e,h1.mono (by rw [List.length_cons]; omega) (Nat.le_refl _),fun q=>?_,fun ha=>?_⟩
   ·have hmc:q ∈ (x :: E).map (·.P) ↔ q = x.P ∨ q ∈ E.map (·.P):=by rw [List.map_cons,List.mem_cons]
    rw [h2,g2]
    by_cases hq:q ∈ E.map (·.P) ∧ (findQ eqP st q).getD false = false
    ·rw [if_pos hq,if_pos ⟨hmc.2 (.inr hq.1),hq.2⟩]
    ·rw [if_neg hq]
     by_cases hx:q = x.P
     ·rw [if_pos hx,if_pos ⟨hmc.2 (.inl hx),by rw [hx]; exact hs⟩]
     ·rw [if_neg hx,if_neg]
      rintro ⟨e1,e2⟩
      rcases hmc.1 e1 with e1 | e1
      ·exact hx e1
      ·exact hq ⟨e1,e2⟩
   ·have:=ha x (by simp)
    rw [hs] at this; cases this
def stepG (G:qk → Option (List THop)) (x:qj):qk → Option (List THop):=fun q=>if good x.P x.Hops = true ∧ q = x.P then some (ordL x.Hops) else G q
theorem l2_f : ∀ (l:List qj) (set:Int) {B M:Nat} {f:TFib} {m:List TEntry},FI B M f m → B + 120 * l.length + 200 < 1099511627776 → M + l.length < 4000 → (∀ x ∈ l,qj.ok x) → (∀ x ∈ l,x.Hops.length ≤ 1000) →
  ∃ set' f' m',F10l2 set f.t.root f.t.n f.atf f.sets f.t.l f.t.free l = some (set',f'.t.root,f'.t.n,f'.atf,f'.sets,f'.t.l,f'.t.free) ∧ FI (B + 120 * l.length) (M + l.length) f' m' ∧ vw f' m' = l.foldl stepG (vw f m) ∧
   ((∀ x ∈ l,vw f m x.P = some (ordL x.Hops)) → set' = set)
 | [],set,B,M,f,m,h,_,_,_,_=>⟨set,f,m,rfl,h,rfl,fun _=>rfl⟩
 | x :: l,set,B,M,f,m,h,hB,hM,hok,hlen=>by
  rw [List.length_cons] at hB hM
  have hok' : ∀ y ∈ l,qj.ok y:=fun y hy=>hok y (by simp [hy])
  have hlen' : ∀ y ∈ l,y.Hops.length ≤ 1000:=fun y hy=>hlen y (by simp [hy])
  have hxo:=hok x (by simp)
  have hxl:=hlen x (by simp)
  have hho : ∀ y ∈ x.Hops,THop.ok y:=hxo.2.2.2.2.2.2.2
  have hxp:InK .u32 x.P.A:=hxo.1.1
  have hB2:B + 120 + 120 * l.length ≤ B + 120 * (l.length + 1):=by omega
  rw [F10l2,order_eq hxl,obS]
  have eh:F23 ⟨⟨f.t.l,f.t.free,f.t.root,f.t.n⟩,f.sets,f.atf⟩ x.P (ordL x.Hops) = some (decide (vw f m x.P = some (ordL x.Hops))):=has_f h (by omega) hxp _
  rw [eh,obS]
  by_cases hv:vw f m x.P = some (ordL x.Hops)
  ·rw [decide_eq_true hv,cond_true]
   obtain ⟨s',f',m',e,h1,h2,h3⟩:=l2_f l set h (by omega) (by omega) hok' hlen'
   refine ⟨s',f',m',e,h1.mono (by rw [List.length_cons]; omega) (by rw [List.length_cons]; omega),?_,fun ha=>h3 fun y hy=>ha y (by simp [hy])⟩
   rw [h2,List.foldl_cons]
   congr 1
   funext q
   unfold stepG
   by_cases hq:good x.P x.Hops = true ∧ q = x.P
   ·rw [if_pos hq,hq.2,hv]
   ·rw [if_neg hq]
  ·rw [decide_eq_false hv,cond_false]
   obtain ⟨r,f1,m1,e1,g1,g2,g3⟩:=set_f h (by omega) (by omega) hxp hxl hho
   have e1':F16 ⟨⟨f.t.l,f.t.free,f.t.root,f.t.n⟩,f.sets,f.atf⟩ x.P x.Hops = some (r,f1):=e1
   rw [e1',obS]
   have hvw:vw f1 m1 = stepG (vw f m) x:=by funext q; rw [g3]; rfl
   have key : ∀ set0,∃ set' f' m',F10l2 set0 f1.t.root f1.t.n f1.atf f1.sets f1.t.l f1.t.free l = some (set',f'.t.root,f'.t.n,f'.atf,f'.sets,f'.t.l,f'.t.free) ∧ FI (B + 120 * (x :: l).length) (M + (x :: l).length) f' m' ∧ vw f' m' = (x :: l).foldl stepG (vw f m) ∧
     ((∀ y ∈ x :: l,vw f m y.P = some (ordL y.Hops)) → set' = set):=by
    intro set0
    obtain ⟨s',f',m',e,h1,h2,h3⟩:=l2_f l set0 g1 (by omega) (by omega) hok' hlen'
    exact ⟨s',f',m',e,h1.mono (by rw [List.length_cons]; omega) (by rw [List.length_cons]; omega),by rw [h2,hvw,List.foldl_cons],fun ha=>absurd (ha x (by simp)) hv⟩
   by_cases hr:r = 0
   ·simp only [hr,decide_true,cond_true]; exact key _
   ·simp only [hr,decide_false,cond_false]; exact key _
theorem vw_mem {B M:Nat} {f:TFib} {m:List TEntry} (h:FI B M f m) {q:qk} {l:List THop} (hv:vw f m q = some l) : ∃ e ∈ m,e.P = q ∧ hopsAt f.sets e.V.toNat = l:=by
 unfold vw at hv
 obtain ⟨e,he,hl⟩:=Option.map_eq_some_iff.1 hv
 exact ⟨e,(at_some he).1,(at_some he).2,hl⟩
theorem sync_f {B M:Nat} {f:TFib} {m:List TEntry} (h:FI B M f m) (l:List qj) (hB:B + 40 * M + 120 * l.length + 300 < 1099511627776) (hM:M + l.length < 4000) (hok : ∀ x ∈ l,qj.ok x) (hlen : ∀ x ∈ l,x.Hops.length ≤ 1000) :
  ∃ o s f' m',F10 f l = some (o,s,f') ∧ FI (B + 40 * M + 120 * l.length) (M + l.length) f' m' ∧ vw f' m' = l.foldl stepG (fun q=>if q ∈ l.map (·.P) then vw f m q else none) ∧
   ((∀ e ∈ m,e.P ∈ l.map (·.P)) → o = 0) ∧ ((∀ x ∈ l,vw f m x.P = some (ordL x.Hops)) → s = 0):=by
 unfold F10
 obtain ⟨L,e1,h1⟩:=stays_l5 l []
 have hL : ∀ q,(findQ eqP L q).getD false = decide (q ∈ l.map (·.P)):=fun q=>by
  rw [h1]
  by_cases hq:q ∈ l.map (·.P)
  ·rw [if_pos hq,decide_eq_true hq]; rfl
  ·rw [if_neg hq,decide_eq_false hq]; rfl
 have hml:=h.ml
 rw [e1,obS,walk_sim h.sim (by omega),obS]
 obtain ⟨o,f1,m1,e2,g1,g2,g3⟩:=l4_f (st:=L) m 0 h (by omega) (by omega) (fun e he=>(h.sim.allV e he).inK)
 rw [e2,obS]
 obtain ⟨s,f2,m2,e3,k1,k2,k3⟩:=l2_f l 0 g1 (by omega) (by omega) hok hlen
 rw [e3,obS]
 have hv1:vw f1 m1 = fun q=>if q ∈ l.map (·.P) then vw f m q else none:=by
  funext q
  rw [g2,hL]
  by_cases hq:q ∈ l.map (·.P)
  ·rw [if_pos hq,if_neg (fun e=>by rw [decide_eq_true hq] at e; cases e.2)]
  ·rw [if_neg hq]
   by_cases hm:q ∈ m.map (·.P)
   ·rw [if_pos ⟨hm,decide_eq_false hq⟩]
   ·rw [if_neg (fun e=>hm e.1)]
    cases hv:vw f m q with
    | none=>rfl
    | some x =>
     obtain ⟨e,he,hep,_⟩:=vw_mem h hv
     exact absurd (List.mem_map.2 ⟨e,he,hep⟩) hm
 refine ⟨o,s,_,m2,rfl,k1.mono (by omega) (by omega),by rw [← hv1]; exact k2,fun ha=>?_,fun ha=>?_⟩
 ·exact g3 fun e he=>by rw [hL]; exact decide_eq_true (ha e he)
 ·refine k3 fun x hx=>?_
  rw [hv1]
  simp only
  rw [if_pos (List.mem_map.2 ⟨x,hx,rfl⟩)]
  exact ha x hx
theorem find_f {B M:Nat} {f:TFib} {m:List TEntry} (h:FI B M f m) (hB:B + 40 < 1099511627776) {a:Int} (ha:InK .u32 a) :
  (∃ e,(hsA a m).getLast? = some e ∧ e ∈ m ∧ F11 f a = some (e.P,hopsAt f.sets e.V.toNat,true) ∧ (hopsAt f.sets e.V.toNat).length ≤ 8 ∧ vw f m e.P = some (hopsAt f.sets e.V.toNat)) ∨ ((hsA a m).getLast? = none ∧ F11 f a = some (⟨0,0⟩,[],false)):=by
 unfold F11
 rw [find_sim h.sim hB ha,obS]
 unfold fndE
 cases hl:(hsA a m).getLast? with
 | none=>right; exact ⟨rfl,rfl⟩
 | some e =>
  left
  have hem:e ∈ m:=(List.mem_filter.1 (List.mem_of_getLast? hl)).1
  obtain ⟨k,g,hk,hc,hg,hh⟩:=h.at_get hem
  have hle:=(h.gi.grp k g hg hc).2.1
  refine ⟨e,rfl,hem,?_,by rw [hk,Int.toNat_natCast,hh]; exact hle,by unfold vw; rw [at_mem h.sim.srt hem]; rfl⟩
  simp only [cond_true,hk,getI_nat hg,obS,Int.toNat_natCast,hh]
  rw [decide_eq_true (by omega),cond_true]
theorem keys_f {B M:Nat} {f:TFib} {m:List TEntry} (h:FI B M f m) (t:ByteArray):t ∈ f.atf.2.map (·.2.1) ↔ ∃ q l,vw f m q = some l ∧ txt l = t:=by
 constructor
 ·intro ht
  obtain ⟨x,hx,rfl⟩:=List.mem_map.1 ht
  obtain ⟨k,g,h1,h2,h3,h4⟩:=h.gi.ent x hx
  obtain ⟨e,he,hek⟩:=cnt_ex h2
  refine ⟨e.P,g.hops,?_,?_⟩
  ·unfold vw
   rw [at_mem h.sim.srt he]
   simp only [Option.map_some,hek,Int.toNat_natCast]
   unfold hopsAt
   rw [h3]; rfl
  ·rw [← (h.gi.grp k g h3 h2).2.2.2,h4]
 ·rintro ⟨q,l,hv,rfl⟩
  obtain ⟨e,he,_,hl⟩:=vw_mem h hv
  obtain ⟨k,g,hk,hc,hg,hh⟩:=h.at_get he
  obtain ⟨s,hs⟩:=h.gi.fnd k g hg hc
  rw [hk,Int.toNat_natCast,hh] at hl
  refine List.mem_map.2 ⟨_,hs,?_⟩
  simp only
  rw [(h.gi.grp k g hg hc).2.2.2,hl]
end Go.Proofs.YtakallenldpkiaaGreatDoor.Abs
end
section
set_option linter.unusedVariables false
set_option linter.unusedSimpArgs false
namespace Go.Proofs.YtakallenldpkiaaGreatDoor.Abs
open Go
theorem small_l1 : ∀ l:List qj,(F6l1 l = some (.ok ()) ∧ ∀ x ∈ l,x.Hops.length ≤ 20) ∨ F6l1 l = some (.error false)
 | []=>.inl ⟨rfl,fun x h=>by cases h⟩
 | x :: l=>by
  rw [F6l1]
  by_cases h:20 < x.Hops.length
  ·rw [decide_eq_true (by omega),cond_true]; exact .inr rfl
  ·rw [decide_eq_false (by omega),cond_false]
   rcases small_l1 l with ⟨h1,h2⟩ | h1
   ·refine .inl ⟨h1,fun y hy=>?_⟩
    rcases List.mem_cons.1 hy with rfl | hy
    ·omega
    ·exact h2 y hy
   ·exact .inr h1
theorem hops_l1 : ∀ (l out:List THop),out.length + l.length < 1000000 → F14l1 out l = some (out ++ l)
 | [],out,_=>by simp [F14l1]
 | x :: l,out,h=>by
  rw [List.length_cons] at h
  rw [F14l1,decide_eq_true (by omega),cond_true,hops_l1 l _ (by simp only [List.length_append,List.length_cons,List.length_nil]; omega)]
  simp
theorem hops_eq {l:List THop} (h:l.length ≤ 8):F14 l = some l:=by
 unfold F14
 rw [hops_l1 l [] (by simp; omega),obS,List.nil_append]
end Go.Proofs.YtakallenldpkiaaGreatDoor.Abs
end
section
set_option linter.unusedVariables false
set_option linter.unusedSimpArgs false
namespace Go.Proofs.YtakallenldpkiaaGreatDoor.Abs
open Go
theorem small_gen (a:TAct):F6 a = some false ∨ (F6 a = some true ∧ a.Hops.length ≤ 20 ∧ a.L.length ≤ 40 ∧ ∀ x ∈ a.L,x.Hops.length ≤ 20):=by
 unfold F6
 by_cases h0:20 < a.Hops.length
 ·rw [decide_eq_true (by omega),cond_true]; exact .inl rfl
 rw [decide_eq_false (by omega),cond_false]
 by_cases h:40 < a.L.length
 ·rw [decide_eq_true (by omega),cond_true]; exact .inl rfl
 ·rw [decide_eq_false (by omega),cond_false]
  rcases small_l1 a.L with ⟨h1,h2⟩ | h1
  ·rw [h1]; exact .inr ⟨rfl,by omega,by omega,h2⟩
  ·rw [h1]; exact .inl rfl
theorem acts_l7 : ∀ (l:List TAct) (i:Nat) {f:TFib} {m:List TEntry},i ≤ 60 → FI (200000 * i) (42 * i) f m → (∀ x ∈ l,TAct.ok x) →
  ∃ f' m',F4l7 f.t.root f.t.n f.t.l f.t.free f.sets f.atf i l = some (f'.t.root,f'.t.n,f'.t.l,f'.t.free,f'.sets,f'.atf) ∧ FI 12000000 2520 f' m'
 | [],i,f,m,hi,h,_=>⟨f,m,rfl,h.mono (by omega) (by omega)⟩
 | x :: l,i,f,m,hi,h,hok=>by
  have hok' : ∀ y ∈ l,TAct.ok y:=fun y hy=>hok y (by simp [hy])
  obtain ⟨_,hp,hh,hL⟩:=hok x (by simp)
  rw [F4l7]
  by_cases h60:i < 60
  ·rw [decide_eq_true (by omega),cond_true]
   rcases small_gen x with e0 | ⟨e0,q1,q2,q3⟩
   ·rw [e0,obS]
    exact acts_l7 l (i + 1) (by omega) (h.mono (by omega) (by omega)) hok'
   ·rw [e0,obS,cond_true]
    obtain ⟨r1,f1,m1,e1,g1,_,_⟩:=set_f h (by omega) (by omega) hp.1 (l:=x.Hops) (by omega) hh
    have e1':F16 ⟨⟨f.t.l,f.t.free,f.t.root,f.t.n⟩,f.sets,f.atf⟩ x.P x.Hops = some (r1,f1):=e1
    rw [e1',obS]
    obtain ⟨o2,s2,f2,m2,e2,g2,_,_,_⟩:=sync_f g1 x.L (by omega) (by omega) hL (fun y hy=>by have:=q3 y hy; omega)
    simp only
    rw [e2,obS]
    obtain ⟨r3,f3,m3,e3,g3,_,_⟩:=set_f g2 (by omega) (by omega) hp.1 (l:=x.Hops) (by omega) hh
    simp only
    rw [e3,obS]
    exact acts_l7 l (i + 1) (by omega) (g3.mono (by omega) (by omega)) hok'
  ·rw [decide_eq_false (by omega),cond_false]
   exact ⟨f,m,rfl,h.mono (by omega) (by omega)⟩
theorem nodup_sub {α:Type} [DecidableEq α] : ∀ {a b:List α},a.Nodup → (∀ x ∈ a,x ∈ b) → a.length ≤ b.length
 | [],b,_,_=>Nat.zero_le _
 | x :: a,b,h,hs=>by
  obtain ⟨h1,h2⟩:=List.nodup_cons.1 h
  have hx:=hs x (by simp)
  have ih:=nodup_sub (b:=b.erase x) h2 fun y hy=>(List.mem_erase_of_ne (fun e:y = x=>h1 (by rw [← e]; exact hy))).2 (hs y (by simp [hy]))
  rw [List.length_erase_of_mem hx] at ih
  have:=List.length_pos_iff.2 (List.ne_nil_of_mem hx)
  simp only [List.length_cons]
  omega
theorem sets_le {B M:Nat} {f:TFib} {m:List TEntry} (h:FI B M f m):f.atf.2.length ≤ m.length:=by
 have:=nodup_sub (b:=m.map fun e=>txt (hopsAt f.sets e.V.toNat)) h.gi.keys fun t ht=>by
  obtain ⟨q,l,hv,rfl⟩:=(keys_f h t).1 ht
  obtain ⟨e,he,_,hl⟩:=vw_mem h hv
  exact List.mem_map.2 ⟨e,he,by rw [hl]⟩
 simpa using this
theorem hopsd_l1 (s:List THop) : ∀ (l:List THop) (i:Nat),s.length = i + l.length → F13l1 s i l = if s.drop i = l then some (.ok ()) else some (.error false)
 | [],i,h=>by
  rw [F13l1,if_pos (List.drop_eq_nil_of_le (by simp at h; omega))]
 | x :: l,i,h=>by
  rw [List.length_cons] at h
  have hlt:i < s.length:=by omega
  rw [F13l1,getI_nat (List.getElem?_eq_getElem hlt),obS,List.drop_eq_getElem_cons hlt]
  have he:(decide (x.Iface = s[i].Iface) && (decide (x.Gate = s[i].Gate) && true)) = decide (s[i] = x):=by
   generalize s[i] = y
   obtain ⟨x1,x2⟩:=x
   obtain ⟨y1,y2⟩:=y
   by_cases h1:x1 = y1 <;> by_cases h2:x2 = y2 <;> simp [h1,h2,eq_comm]
  simp only [he]
  by_cases hx:s[i] = x
  ·rw [decide_eq_true hx,cond_true,hopsd_l1 s l (i + 1) (by omega)]
   by_cases ht:s.drop (i + 1) = l
   ·rw [if_pos ht,if_pos (by rw [hx,ht])]
   ·rw [if_neg ht,if_neg (fun e=>ht (List.cons.inj e).2)]
  ·rw [decide_eq_false hx,cond_false,if_neg (fun e=>hx (List.cons.inj e).1)]
theorem hopsd_eq (a b:List THop):F13 a b = some (decide (a = b)):=by
 unfold F13
 by_cases h:a.length = b.length
 ·have hd:decide ((a.length:Int) = (b.length:Int)) = true:=decide_eq_true (by omega)
  rw [hd,cond_true,hopsd_l1 b a 0 (by omega),List.drop_zero]
  by_cases e:b = a
  ·rw [if_pos e,decide_eq_true e.symm]; rfl
  ·rw [if_neg e,decide_eq_false (fun q=>e q.symm)]; rfl
 ·have hd:decide ((a.length:Int) = (b.length:Int)) = false:=decide_eq_false (by omega)
  rw [hd,cond_false,decide_eq_false (fun e=>h (by rw [e]))]
theorem exact_l1 {p:qk} : ∀ l:List TEntry,F18l1 p l = some (.error []) ∨ (F18l1 p l = some (.ok ()) ∧ ∀ x ∈ l,p.N < x.P.N → F9 x.P p.A = false)
 | []=>.inr ⟨rfl,fun x h=>(by cases h)⟩
 | x :: l=>by
  rw [F18l1]
  by_cases h:p.N < x.P.N
  ·rw [decide_eq_true h,cond_true]
   cases hh:F9 x.P p.A with
   | true=>exact .inl rfl
   | false =>
    simp only [cond_false]
    rcases exact_l1 (p:=p) l with h1 | ⟨h1,h2⟩
    ·exact .inl h1
    ·refine .inr ⟨h1,fun y hy hn=>?_⟩
     rcases List.mem_cons.1 hy with rfl | hy
     ·exact hh
     ·exact h2 y hy hn
  ·rw [decide_eq_false h,cond_false]
   rcases exact_l1 (p:=p) l with h1 | ⟨h1,h2⟩
   ·exact .inl h1
   ·refine .inr ⟨h1,fun y hy hn=>?_⟩
    rcases List.mem_cons.1 hy with rfl | hy
    ·exact absurd hn h
    ·exact h2 y hy hn
theorem exact_f {B M:Nat} {f:TFib} {m:List TEntry} (h:FI B M f m) (hB:B + 40 < 1099511627776) {e:TEntry} (he:e ∈ m) :
  ∃ r,F18 f e.P m = some r ∧ r.length ≤ 8 ∧ (r = [] ∨ r = hopsAt f.sets e.V.toNat):=by
 have hV:=h.sim.allV e he
 obtain ⟨b,n,hpv⟩:=hV
 have hV:=h.sim.allV e he
 have hA:=hV.inK
 unfold F18
 rcases exact_l1 (p:=e.P) m with h1 | ⟨h1,h2⟩
 ·rw [h1]; exact ⟨[],rfl,by simp,.inl rfl⟩
 rw [h1]
 simp only [oexc]
 have hchn:Chn (hsA e.P.A m):=by
  rw [hasA_eq hA h.sim.allV]
  exact abP_chain (p:=⟨e.P.A,32⟩) hA h.sim.srt h.sim.allV
 have hhas:F9 e.P e.P.A = true:=by
  rw [← has_same hA hA]
  obtain ⟨c,hc,hlt⟩:=u32_nat hA
  have hcb:c = b:=by have:=hpv.hA; omega
  rw [hc]
  exact (has_C hlt hA).2 ⟨b,n,hpv,by rw [hcb]⟩
 have hein:e ∈ hsA e.P.A m:=List.mem_filter.2 ⟨he,hhas⟩
 rcases find_f h hB hA with ⟨e',k1,k2,k3,k4,k5⟩ | ⟨k1,k3⟩
 ·have hea:e' ∈ hsA e.P.A m:=List.mem_of_getLast? k1
  have hmx:=chn_max hchn k1 e hein
  have hno : ¬ e.P.N < e'.P.N:=fun hn=>by
   have:=h2 e' k2 hn
   rw [(List.mem_filter.1 hea).2] at this
   cases this
  have hee:e' = e:=by
   obtain ⟨i,hi,hie⟩:=List.mem_iff_getElem.1 hea
   obtain ⟨j,hj,hje⟩:=List.mem_iff_getElem.1 hein
   have hp:=List.pairwise_iff_getElem.1 hchn
   rcases Nat.lt_trichotomy i j with h | h | h
   ·have:=hp i j hi hj h
    rw [hie,hje] at this
    omega
   ·subst h; rw [← hie,hje]
   ·have:=hp j i hj hi h
    rw [hie,hje] at this
    omega
  rw [k3,obS]
  exact ⟨_,rfl,k4,.inr (by rw [hee])⟩
 ·rw [List.getLast?_eq_none_iff.1 k1] at hein
  cases hein
theorem val_iff {B M:Nat} {f:TFib} {m:List TEntry} (h:FI B M f m) {x y:TEntry} (hx:x ∈ m) (hy:y ∈ m):(hopsAt f.sets x.V.toNat = hopsAt f.sets y.V.toNat) ↔ x.V = y.V:=by
 obtain ⟨k,g,hk,hc,hg,hh⟩:=h.at_get hx
 obtain ⟨k',g',hk',hc',hg',hh'⟩:=h.at_get hy
 constructor
 ·intro e
  rw [hk,hk',Int.toNat_natCast,Int.toNat_natCast,hh,hh'] at e
  obtain ⟨s,hs⟩:=h.gi.fnd k g hg hc
  obtain ⟨s',hs'⟩:=h.gi.fnd k' g' hg' hc'
  have ht:g.text = g'.text:=by rw [(h.gi.grp k g hg hc).2.2.2,(h.gi.grp k' g' hg' hc').2.2.2,e]
  have:=keys_one h.gi.keys hs hs' ht
  injection this with _ this
  injection this with _ this
  rw [hk,hk',this]
 ·intro e
  rw [e]
theorem pairs_l5 {B M:Nat} {f:TFib} {m:List TEntry} (h:FI B M f m) (hB:B + 40 < 1099511627776) (hM:M < 100000) {i:Nat} {x:TEntry} (hx:m[i]? = some x) : ∀ (fuel j:Nat),j ≤ i → i - j ≤ fuel →
  F4l5 f.t.root f.t.n f.t.l f.t.free f.sets f.atf m i x fuel (j:Int) = some (.ok ()):=by
 have hi:=(List.getElem?_eq_some_iff.1 hx).1
 have hml:=h.ml
 intro fuel
 induction fuel with
 | zero =>
  intro j hj hf
  rw [F4l5_u,decide_eq_false (by omega),cond_false]
 | succ fuel ih =>
  intro j hj hf
  rw [F4l5_u]
  by_cases hji:j < i
  ·rw [decide_eq_true (by omega),cond_true]
   have hy:m[j]? = some (m[j]'(by omega)):=List.getElem?_eq_getElem (by omega)
   have hxm:=List.mem_of_getElem? hx
   have hym:=List.mem_of_getElem? hy
   obtain ⟨r,e1,r8,r1⟩:=exact_f h hB hxm
   obtain ⟨s,e2,s8,s1⟩:=exact_f h hB hym
   have e1':F18 ⟨⟨f.t.l,f.t.free,f.t.root,f.t.n⟩,f.sets,f.atf⟩ x.P m = some r:=e1
   have e2':F18 ⟨⟨f.t.l,f.t.free,f.t.root,f.t.n⟩,f.sets,f.atf⟩ (m[j]'(by omega)).P m = some s:=e2
   have hw:IntKind.i64.wrap ((j:Int) + 1) = ((j + 1:Nat):Int):=by rw [wi64 (by omega) (by omega)]; omega
   simp only [e1',obS,getI_nat hy,e2',hw,ih (j + 1) (by omega) (by omega)]
   by_cases h1:0 < r.length
   ·rw [decide_eq_true (by omega),cond_true]
    by_cases h2:0 < s.length
    ·rw [decide_eq_true (by omega),cond_true,hops_eq r8,obS,hops_eq s8,obS,hopsd_eq,obS]
     have hr:=r1.resolve_left fun e=>by rw [e] at h1; simp at h1
     have hs:=s1.resolve_left fun e=>by rw [e] at h2; simp at h2
     have hd:decide (r = s) = decide (x.V = (m[j]'(by omega)).V):=by
      rw [hr,hs]
      exact decide_eq_decide.2 (val_iff h hxm hym)
     rw [hd]
     simp
    ·rw [decide_eq_false (by omega),cond_false]
   ·rw [decide_eq_false (by omega),cond_false]
  ·rw [decide_eq_false (by omega),cond_false]
theorem pairs_l6 {B M:Nat} {f:TFib} {m:List TEntry} (h:FI B M f m) (hB:B + 40 < 1099511627776) (hM:M < 100000) : ∀ (l:List TEntry) (i:Nat),m.drop i = l →
  F4l6 f.t.root f.t.n f.t.l f.t.free f.sets f.atf m i l = some (.ok ())
 | [],i,_=>rfl
 | x :: l,i,hd=>by
  have hx:m[i]? = some x:=by
   have:(m.drop i)[0]? = some x:=by rw [hd]; rfl
   simpa using this
  have hil:=(List.getElem?_eq_some_iff.1 hx).1
  have hml:=h.ml
  have hfu:fuelUp 0 (i:Int) = i:=fuel_nat (i:=0) (B:=i) (by omega) (by omega)
  have e:F4l5 f.t.root f.t.n f.t.l f.t.free f.sets f.atf m i x i 0 = some (.ok ()):=pairs_l5 h hB hM hx i 0 (by omega) (by omega)
  rw [F4l6,hfu,e]
  exact pairs_l6 h hB hM l (i + 1) (by
   have:(m.drop i).drop 1 = l:=by rw [hd]; rfl
   simpa [List.drop_drop,Nat.add_comm] using this)
theorem drops_l4 : ∀ (E:List TEntry) {B M:Nat} {f:TFib},FI B M f E → B + 40 * E.length + 40 < 1099511627776 → M < 100000 →
  ∃ f',F4l4 f.t.root f.t.n f.t.l f.t.free f.sets f.atf E = some (.ok (f'.t.root,f'.t.n,f'.t.l,f'.t.free,f'.sets,f'.atf)) ∧ FI (B + 40 * E.length) M f' []
 | [],B,M,f,h,_,_=>⟨f,rfl,h⟩
 | x :: E,B,M,f,h,hB,hM=>by
  rw [List.length_cons] at hB
  obtain ⟨f1,e1,g1,_⟩:=drop_f h (by omega) hM (h.sim.allV x (by simp)).inK
  have e1':F19 ⟨⟨f.t.l,f.t.free,f.t.root,f.t.n⟩,f.sets,f.atf⟩ x.P = some (hasP x.P (x :: E),f1):=e1
  have hh:hasP x.P (x :: E) = true:=by simp [hasP]
  have ho:outP x.P (x :: E) = E:=by
   have e:outP x.P (x :: E) = outP x.P E:=by simp [outP]
   rw [e,outP_same fun y hy=>((srt_cons.1 h.sim.srt).1 y hy).ne.symm]
  rw [ho] at g1
  rw [F4l4,e1',obS,hh,cond_true]
  obtain ⟨f',e,g⟩:=drops_l4 E g1 (by omega) hM
  exact ⟨f',e,g.mono (by rw [List.length_cons]; omega) (Nat.le_refl _)⟩
theorem fibSets_true (script:List TAct) (hok : ∀ y ∈ script,TAct.ok y):F4 script = some true:=by
 unfold F4
 simp only [alive_true]
 obtain ⟨f,m,e,h⟩:=acts_l7 script 0 (by omega) FI.new hok
 have e':F4l7 F5.t.root F5.t.n F5.t.l F5.t.free F5.sets F5.atf 0 script = some (f.t.root,f.t.n,f.t.l,f.t.free,f.sets,f.atf):=e
 have hml:=h.ml
 rw [e',obS]
 have hAll : ∀ {B M:Nat} {f:TFib} {m:List TEntry},FI B M f m → B + 40 < 1099511627776 → F12 ⟨⟨f.t.l,f.t.free,f.t.root,f.t.n⟩,f.sets,f.atf⟩ = some m:=fun {B M f m} h hB=>by
  have:F12 f = some m:=by
   unfold F12
   rw [walk_sim h.sim hB,obS]
  exact this
 have hle:=sets_le h
 obtain ⟨f',e4,g⟩:=drops_l4 m h (by omega) (by omega)
 have hnil:f'.atf.2 = []:=by
  cases ha:f'.atf.2 with
  | nil=>rfl
  | cons z r =>
   obtain ⟨k,_,_,hc,_⟩:=g.gi.ent z (by rw [ha]; simp)
   exact absurd rfl hc
 simp only [hAll h (by omega),obS,F17]
 rw [decide_eq_false (show ¬ (m.length:Int) < (f.atf.2.length:Int) by omega),cond_false,pairs_l6 h (by omega) (by omega) m 0 rfl]
 simp only [oexc]
 rw [e4]
 simp only [obS,cond_true,hnil,hAll g (by omega)]
 rfl
end Go.Proofs.YtakallenldpkiaaGreatDoor.Abs
end
end

