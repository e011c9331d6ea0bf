/- Of the abstract machine and its walks: see the texts that import this. -/
import Derived.Test.YtakallenldpkiaaGreatDoorShelf
import Derived.Lib.Walk
import Derived.Lib.ItoaMem
import Derived.WalkKit
import Derived.BigCall
import Derived.BigGuard
import Derived.Test.YtakallenldpkiaaGreatDoorEn
import Derived.Test.YtakallenldpkiaaGreatDoorA35
import Derived.Test.YtakallenldpkiaaGreatDoorA36
import Derived.Test.YtakallenldpkiaaGreatDoorS1
import Derived.Test.YtakallenldpkiaaGreatDoorQ
section
set_option linter.unusedVariables false
set_option linter.unusedSimpArgs false
namespace Go.Proofs.YtakallenldpkiaaGreatDoor.Fu
open Go Go.Shelf Go.RowKit Go.Sort Go.Lib
theorem holds0 (w:World) (T:TypeId) (nd:Nat) (hs:nd ≤ 24):Holds (fun (b:UInt8)=>Value.int .u8 (b.toNat:Int)) (w.alloc (.cells zeros24 T)) w.heap.size 0 (Array.replicate nd (0:UInt8)):=fun j hj=>by
 have hj':j < nd:=by simpa using hj
 refine ⟨?_,World.frozen?_alloc_new _ _ _ _⟩
 rw [World.cell?_alloc_new,Nat.zero_add,zeros24_at _ (by omega),getElem!_pos _ j hj]
 simp
theorem fin0 (w:World) (o:Obj) (dk:Array UInt8) (k:Nat) : ∃ os,(putRow (fun (b:UInt8)=>Value.int .u8 (b.toNat:Int)) (w.alloc o) w.heap.size 0 dk).drewN k = grow (w.drewN k) os:=by
 rw [alloc_eq_grow]
 obtain ⟨os',_,e⟩:=putRow_grow_new (fun (b:UInt8)=>Value.int .u8 (b.toNat:Int)) w #[o] w.heap.size 0 dk (Nat.le_refl _)
 exact ⟨os',by rw [e]; rfl⟩
set_option maxHeartbeats 6400000 in
set_option maxRecDepth 100000 in
theorem fmt_inner (u:Nat) (hu64:u < 18446744073709551616) (w:World) (htab:Lib.TabIs Tryz.prog w "internal/strconv.uint64pow10" .u64 Lib.pow10Tab) :
  Calls Tryz.prog 80 #[.int .u64 u,.int .i64 10] w fun e w'=>e = .returned (.string ⟨(Lib.decDigits u).toArray⟩) ∧ ∃ k os,w' = grow (w.drewN k) os:=by
 have mixed:Tryz.prog.follows .mixedOrders = true:=by kernel_rfl
 have t3:=Tryz.underlying3; have a3:=Tryz.isAgg3; have z3:=Tryz.sizeOf3; have v3:=Tryz.zeroValue3
 have t9:=Tryz.underlying9; have a9:=Tryz.isAgg9; have z9:=Tryz.sizeOf9; have v9:=Tryz.zeroValue9
 have t4:=Tryz.underlying4; have a4:=Tryz.isAgg4; have z4:=Tryz.sizeOf4; have v4:=Tryz.zeroValue4
 have t143:=Tryz.underlying143; have a143:=Tryz.isAgg143; have z143:=Tryz.sizeOf143; have v143:=Tryz.zeroValue143
 have t128:=Tryz.underlying128; have a128:=Tryz.isAgg128; have z128:=Tryz.sizeOf128; have v128:=Tryz.zeroValue128
 have t5:=Tryz.underlying5; have a5:=Tryz.isAgg5; have z5:=Tryz.sizeOf5; have v5:=Tryz.zeroValue5
 have t108:=Tryz.underlying108; have a108:=Tryz.isAgg108; have z108:=Tryz.sizeOf108; have v108:=Tryz.zeroValue108
 have e90 : ∀ args w,(callFunc 90 args).run Tryz.prog w = .ok (.enter 90 args) w:=enters_of Tryz.func90 (by kernel_rfl) rfl
 have e91 : ∀ args w,(callFunc 91 args).run Tryz.prog w = .ok (.enter 91 args) w:=enters_of Tryz.func91 (by kernel_rfl) rfl
 have e92 : ∀ args w,(callFunc 92 args).run Tryz.prog w = .ok (.enter 92 args) w:=enters_of Tryz.func92 (by kernel_rfl) rfl
 by_cases hs:u < 100
 ·have hsm:=Any.internal_strconv_small Tryz.lays283 u hs
  change ∀ w,Calls Tryz.prog 90 _ w _ at hsm
  have hlt:(u:Int) < 100:=by omega
  have hw:IntKind.i64.wrap (u:Int) = (u:Int):=by rw [IntKind.wrap_i64]; omega
  go_enter Tryz.func80,Tryz.ntmps80
  go_wp2_with (go_at_fn 90; refine (hsm _).mono ?_; rintro e w' ⟨rfl,rfl⟩)
  go_ret
  exact ⟨rfl,0,#[],by simp [World.drewN_zero]⟩
 ·have hu1:1 ≤ u:=by omega
  have hnd20:Lib.nDigits u ≤ 20:=by have:=Lib.numDigits_eq u hu1 hu64; split at this <;> omega
  have hal:Tryz.prog.arrayLen 143 = 24:=by kernel_rfl
  have hsl1 : ∀ W,(Instr.sliceAt 143 (.pointer (some ⟨w.heap.size,0,none⟩)) none (some (.int .i64 (Lib.nDigits u:Int))) none).run Tryz.prog W = .ok (.slice (some ⟨w.heap.size,0,none⟩) (Lib.nDigits u) 24) W:=fun W=>by
   rw [run_sliceAt_array_h W 143 ⟨w.heap.size,0,none⟩ (by kernel_rfl) .i64 (Lib.nDigits u:Int) (by omega) (by rw [hal]; omega)]
   go_simp
  have hH0:=holds0 w 143 (Lib.nDigits u) (by omega)
  have hfmt:=Any.internal_strconv_formatBase10 Tryz.lays285 w.heap.size 0 24 u (Array.replicate (Lib.nDigits u) 0) (w.alloc (.cells Lib.zeros24 143)) hH0 (by rw [Array.size_replicate]; exact Lib.lt_pow_nDigits u) hu64 (by rw [Array.size_replicate]; omega)
  rw [Array.size_replicate] at hfmt
  change Calls Tryz.prog 92 _ _ _ at hfmt
  have hnum:=Any.internal_strconv_numDigits Tryz.laysM284 u hu1 hu64 (w.alloc (.cells Lib.zeros24 143)) (Lib.tabIs_alloc htab _)
  change Calls Tryz.prog 91 _ _ _ at hnum
  have HH0:=Lib.hid hH0
  clear hH0 hal
  go_enter Tryz.func80,Tryz.ntmps80
  go_wp2_with (first
   | (go_at_fn 91; refine hnum.mono ?_; rintro e w' ⟨rfl,rfl⟩))
  go_at_fn 92
  refine hfmt.mono ?_
  rintro e w' ⟨rfl,k,v',dk,rfl,hF⟩
  have hcv:(convert 128 9 (.slice (some ⟨w.heap.size,0,none⟩) (Lib.nDigits u) 24)).run Tryz.prog ((putRow (fun (b:UInt8)=>Value.int .u8 (b.toNat:Int)) (w.alloc (.cells Lib.zeros24 143)) w.heap.size 0 dk).drewN k) = .ok (.string ⟨(Lib.decDigits u).toArray⟩) ((putRow (fun (b:UInt8)=>Value.int .u8 (b.toNat:Int)) (w.alloc (.cells Lib.zeros24 143)) w.heap.size 0 dk).drewN k):=by
   have h:=run_convert_bytes_back (P:=Tryz.prog) ((putRow (fun (b:UInt8)=>Value.int .u8 (b.toNat:Int)) (w.alloc (.cells Lib.zeros24 143)) w.heap.size 0 dk).drewN k) 128 9 5 ⟨w.heap.size,0,none⟩ 24 (Lib.decDigits u) t128 t5 t9 (fun j hj=>by
    rw [Lib.row_is_numeral hF j hj,Lib.add_plain,World.cell?_drewN]
    exact cell?_putRow (fun (b:UInt8)=>Value.int .u8 (b.toNat:Int)) _ w.heap.size 0 _ dk HH0.out (by rw [hF.size,Array.size_replicate]) j (by rw [hF.size]; rw [Lib.decDigits_length] at hj; exact hj))
   rw [Lib.decDigits_length] at h
   exact h
  go_wp2
  go_ret
  obtain ⟨os,eo⟩:=fin0 w (.cells Lib.zeros24 143) dk k
  exact ⟨rfl,k,os,eo⟩
end Go.Proofs.YtakallenldpkiaaGreatDoor.Fu
end
section
set_option linter.unusedVariables false
set_option linter.unusedSimpArgs false
namespace Go.Proofs.YtakallenldpkiaaGreatDoor.Abs
open Go
abbrev eqHop:THop → THop → Bool:=fun a b=>(decide (a.Iface = b.Iface) && (decide (a.Gate = b.Gate) && true))
theorem eqHop_iff {a b:THop}:eqHop a b = true ↔ a = b:=by
 obtain ⟨a1,a2⟩:=a
 obtain ⟨b1,b2⟩:=b
 simp [eqHop]
theorem dd_snoc : ∀ (l:List THop) (x y:THop),compactQ eqHop ((x :: l) ++ [y]) = if (x :: l).getLast (by simp) = y then compactQ eqHop (x :: l) else compactQ eqHop (x :: l) ++ [y]
 | [],x,y=>by
  have h1:compactQ eqHop [x,y] = bif eqHop y x then compactQ eqHop [x] else x :: compactQ eqHop [y]:=by conv=>lhs; rw [compactQ]
  simp only [List.singleton_append,List.getLast_singleton,h1,compactQ]
  by_cases h:x = y
  ·subst h
   have:eqHop x x = true:=eqHop_iff.2 rfl
   simp [this]
  ·have:eqHop y x = false:=by
    cases hb:eqHop y x with
    | false=>rfl
    | true=>exact absurd (eqHop_iff.1 hb).symm h
   simp [this,h]
 | z :: l,x,y=>by
  have e1:compactQ eqHop (x :: z :: l) = bif eqHop z x then compactQ eqHop (x :: l) else x :: compactQ eqHop (z :: l):=by rw [compactQ]
  have e2:compactQ eqHop (x :: z :: (l ++ [y])) = bif eqHop z x then compactQ eqHop (x :: (l ++ [y])) else x :: compactQ eqHop (z :: (l ++ [y])):=by rw [compactQ]
  simp only [List.cons_append,e1,e2]
  have hl:(x :: z :: l).getLast (by simp) = (z :: l).getLast (by simp):=List.getLast_cons (by simp)
  rw [hl]
  cases hb:eqHop z x with
  | true =>
   have:=eqHop_iff.1 hb
   subst this
   have ih:=dd_snoc l z y
   simp only [List.cons_append] at ih
   simp only [cond_true]
   exact ih
  | false =>
   have ih:=dd_snoc l z y
   simp only [List.cons_append] at ih
   simp only [cond_false,ih]
   split <;> rfl
termination_by l=>l.length
theorem dd_take {L:List THop} {i:Nat} {x y:THop} (hi:1 ≤ i) (hx:L[i - 1]? = some x) (hy:L[i]? = some y):compactQ eqHop (L.take (i + 1)) = if x = y then compactQ eqHop (L.take i) else compactQ eqHop (L.take i) ++ [y]:=by
 have hlt:=(List.getElem?_eq_some_iff.1 hy).1
 have h1:L.take (i + 1) = L.take i ++ [y]:=by
  rw [List.take_add_one,hy]
  rfl
 have h2:L.take i ≠ []:=by
  intro h
  have:=congrArg List.length h
  rw [List.length_take,List.length_nil] at this
  omega
 match hl:L.take i,h2 with
 | z :: l,_ =>
  rw [h1,hl]
  have hlast:(z :: l).getLast (by simp) = x:=by
   have e:(L.take i).getLast? = some x:=by
    rw [List.getLast?_eq_getElem?,List.length_take,List.getElem?_take,if_pos (by omega),Nat.min_eq_left (by omega)]
    exact hx
   rw [hl] at e
   rw [List.getLast?_eq_some_getLast (by simp)] at e
   exact Option.some.inj e
  rw [dd_snoc,hlast]
theorem core_idxoL {α:Type} {c:α → List PVal} {h:AId → Option AObj} {nx id sz lo m j:Nat} {ty:TypeId} {L:List α} {ik:IntKind} {i:Int} (ho:h id = some (.row sz ty (L.map c))) (hi:i = (j:Int)) (hj:j < m) (hm:lo + m ≤ L.length) (q:Nat) (hq:lo + j = q):core (.idxA sz) [.own id sz lo m,.int ik i] h nx = some { v:=.eptr id sz q 0,rh:=[id] }:=by
 subst hi hq
 simp only [core,ho]
 rw [if_pos ⟨trivial,trivial,by rw [List.length_map]; omega,by omega,by omega⟩]
 simp
theorem core_idxL {h:AId → Option AObj} {nx id m j:Nat} {ty:TypeId} {L:List THop} (ho:h id = some (.row 2 ty (L.map THop.c))) (hj:j < m) (hm:m ≤ L.length):core (.idxA 2) [.own id 2 0 m,.int .i64 (j:Int)] h nx = some { v:=.eptr id 2 j 0,rh:=[id] } :=
 core_idxoT ho rfl hj hm
theorem core_idxoff {h:AId → Option AObj} {nx id lo m j:Nat} {ty:TypeId} {L:List THop} (ho:h id = some (.row 2 ty (L.map THop.c))) (hj:j < m) (hm:lo + m ≤ L.length):core (.idxA 2) [.own id 2 lo m,.int .i64 (j:Int)] h nx = some { v:=.eptr id 2 (lo + j) 0,rh:=[id] } :=
 core_idxoL ho rfl hj hm _ rfl
theorem core_sliceH {h:AId → Option AObj} {nx id m q:Nat} {ty:TypeId} {R:List THop} (ho:h id = some (.row 2 ty (R.map THop.c))) (hm:R.length = m) (hq:q ≤ m):core (.slice 2 false true) [.own id 2 0 m,.int .i64 (q:Int)] h nx = some { v:=.own id 2 0 q,rh:=[id] }:=by
 subst hm
 rw [core_sliceRhi ho (by omega) (by omega),List.length_take,Int.toNat_natCast,Nat.min_eq_left hq]
theorem core_loaC {h:AId → Option AObj} {nx id j:Nat} {ty:TypeId} {L:List THop} {x:THop} (ho:h id = some (.row 2 ty (L.map THop.c))) (he:L[j]? = some x):core (.load (some 2)) [.eptr id 2 j 0] h nx = some { v:=.agg (THop.c x),rh:=[id] } :=
 core_loaT ho he rfl
theorem core_stoC {h:AId → Option AObj} {nx id j:Nat} {ty:TypeId} {L:List THop} {x x':THop} (ho:h id = some (.row 2 ty (L.map THop.c))) (he:L[j]? = some x):core (.store 2) [.eptr id 2 j 0,.agg (THop.c x')] h nx = some { v:=.hole,rh:=[id],wh:=[(id,some (.row 2 ty ((L.set j x').map THop.c)))] } :=
 core_stoT ho he rfl rfl rfl rfl rfl
theorem core_eqC {h:AId → Option AObj} {nx:Nat} {x y:THop}:core (.bin .eql (.flat [.int .i64,.int .u32])) [.agg (THop.c x),.agg (THop.c y)] h nx = some { v:=.bool (eqHop x y) }:=rfl
theorem core_neC {h:AId → Option AObj} {nx:Nat} {x y:THop}:core (.bin .neq (.flat [.int .i64,.int .u32])) [.agg (THop.c x),.agg (THop.c y)] h nx = some { v:=.bool (!eqHop x y) }:=rfl
theorem core_subC {h:AId → Option AObj} {nx:Nat} {i:Nat} {ek:EK} (h1:1 ≤ i) (h2:i < 1099511627776):core (.bin .sub ek) [.int .i64 (i:Int),.int .i64 1] h nx = some { v:=.int .i64 ((i - 1:Nat):Int) }:=by
 have:IntKind.i64.wrap ((i:Int) - 1) = ((i - 1:Nat):Int):=by rw [wrap64_of (by omega) (by omega)]; omega
 show some ({ v:=.int .i64 (IntKind.i64.wrap ((i:Int) - 1)) }:R) = _
 rw [this]
theorem core_addC {h:AId → Option AObj} {nx:Nat} {i:Nat} {ek:EK} (h2:i < 1099511627776):core (.bin .add ek) [.int .i64 (i:Int),.int .i64 1] h nx = some { v:=.int .i64 ((i + 1:Nat):Int) }:=by
 have:IntKind.i64.wrap ((i:Int) + 1) = ((i + 1:Nat):Int):=by rw [wrap64_of (by omega) (by omega)]; omega
 show some ({ v:=.int .i64 (IntKind.i64.wrap ((i:Int) + 1)) }:R) = _
 rw [this]
theorem f41_ok (T:TypeId) (L:List THop) (hl:L.length < 1099511627776):FnOk Tryz.prog 41 [.own 0 2 0 L.length] [(0,.row 2 T (L.map THop.c))] 1 (.own 1 2 0 (compactQ eqHop L).length) [(1,.row 2 T ((compactQ eqHop L).map THop.c))] 2:=by
 refine FnOk.wk i41 rfl rfl ?_
 change WK _ _ _ [ac41] _ ⟨[(0,.own 0 2 0 L.length)],[(0,.row 2 T (L.map THop.c))],1⟩
 unfold ac41
 refine WK.mvT (t:=0) (zx:=[(1,.row 2 T (L.map THop.c))]) rfl rfl (by simp) rfl ?_
 refine WK.sr mixed ?_
 refine GX.m rfl ?_
 refine GX.done ?_
 refine WK.seq ?_
 refine WK.sr mixed ?_
 refine GX.m rfl ?_
 refine GX.q (.int .i64 (L.length:Int)) ?_
 refine GX.q (.bool (decide ((L.length:Int) < 2))) ?_
 refine GX.done ?_
 rcases qq (decide ((L.length:Int) < 2)) with hb | hb
 ·rw [hb]
  refine WK.condF rfl ?_
  refine WK.skip ?_
  have hn:2 ≤ L.length:=by simp only [decide_eq_false_iff_not] at hb; omega
  refine WK.seq ?_
  refine WK.sr mixed ?_
  refine GX.m rfl ?_
  refine GX.done ?_
  refine WK.forK (fun k s=>∃ i:Nat,1 ≤ i ∧ i ≤ L.length ∧ k = L.length - i ∧ compactQ eqHop (L.take i) = L.take i ∧ s = ⟨[(0,.own 1 2 0 L.length),(3,.int .i64 (i:Int))],[(1,.row 2 T (L.map THop.c))],2⟩) (L.length - 1) ?_ ?_
  ·refine ⟨⟨[(0,.own 1 2 0 L.length),(3,.int .i64 ((1:Nat):Int))],[(1,.row 2 T (L.map THop.c))],2⟩,?_,1,Nat.le_refl _,by omega,rfl,?_,rfl⟩
   ·exact Conv.keepR [0,1] [] [0,3] rfl rfl (qx rfl rfl (qx rfl rfl qy)) rfl rfl
   ·cases L with
    | nil=>simp at hn
    | cons x l=>simp [compactQ]
  rintro k s ⟨i,h1,hi,rfl,hd,rfl⟩ again out Q wx hout hQ
  refine WK.seq ?_
  refine WK.sr mixed ?_
  iterate 2 refine GX.m rfl ?_
  refine GX.q (.int .i64 (L.length:Int)) ?_
  refine GX.q (.bool (decide ((i:Int) < (L.length:Int)))) ?_
  refine GX.done ?_
  rcases qq (decide ((i:Int) < (L.length:Int))) with hb2 | hb2
  ·rw [hb2]
   refine WK.condF rfl ?_
   refine WK.exit ?_
   refine QF.exit (hout _ ?_)
   have hin:i = L.length:=by simp only [decide_eq_false_iff_not] at hb2; omega
   subst hin
   rw [List.take_length] at hd
   refine WK.sr mixed ?_
   iterate 2 refine GX.m rfl ?_
   refine GX.done ?_
   refine WK.ret ?_
   rw [hd]
   exact RetQ.ret [0,1] [] (.inr rfl) rfl rfl rfl rfl rfl .refl rfl
  ·rw [hb2]
   refine WK.condT rfl ?_
   refine WK.skip ?_
   have hlt:i < L.length:=by simp only [decide_eq_true_eq] at hb2; omega
   obtain ⟨y,hy⟩ : ∃ y,L[i]? = some y:=⟨_,List.getElem?_eq_getElem hlt⟩
   obtain ⟨x,hx⟩ : ∃ x,L[i - 1]? = some x:=⟨_,List.getElem?_eq_getElem (by omega)⟩
   have hstep:=dd_take h1 hx hy
   refine WK.seq ?_
   refine WK.blockK (fun K hK=>?_)
   refine WK.seq ?_
   refine WK.drawn mixed ?_
   iterate 2 refine RD.m rfl ?_
   refine RD.pure (v':=.eptr 1 2 i 0) rfl rfl rfl (core_idxL (L:=L) rfl hlt (Nat.le_refl _)) rfl ?_
   refine RD.pure (v':=.agg (THop.c y)) rfl rfl rfl (core_loaC rfl hy) rfl ?_
   iterate 2 refine RD.m rfl ?_
   refine RD.pure (v':=.int .i64 ((i - 1:Nat):Int)) rfl rfl rfl (core_subC h1 (by omega)) rfl ?_
   refine RD.pure (v':=.eptr 1 2 (i - 1) 0) rfl rfl rfl (core_idxL (L:=L) rfl (by omega) (Nat.le_refl _)) rfl ?_
   refine RD.pure (v':=.agg (THop.c x)) rfl rfl rfl (core_loaC rfl hx) rfl ?_
   refine RD.pure (v':=.bool (eqHop y x)) rfl rfl rfl core_eqC rfl ?_
   refine RD.done rfl ?_
   rcases qq (eqHop y x) with hb3 | hb3
   ·rw [hb3]
    refine WK.condF rfl ?_
    refine WK.skip ?_
    refine WK.nil (QF.normal (hK _ ?_))
    refine WK.regx mixed ?_
    refine GX.m rfl ?_
    refine GX.pure (v':=.int .i64 ((i + 1:Nat):Int)) rfl rfl rfl (core_addC (by omega)) rfl ?_
    refine GX.m rfl ?_
    refine GX.done ?_
    refine WK.nil (QF.normal ?_)
    refine wx _ (L.length - (i + 1)) ⟨[(0,.own 1 2 0 L.length),(3,.int .i64 ((i + 1:Nat):Int))],[(1,.row 2 T (L.map THop.c))],2⟩ (by omega) ?_ ⟨i + 1,by omega,by omega,rfl,?_,rfl⟩
    ·exact Conv.keepR [0,1] [] [0,3] rfl rfl (qx rfl rfl (qx rfl rfl qy)) rfl rfl
    ·have hne:x ≠ y:=fun e=>by
      subst e
      have:eqHop x x = true:=eqHop_iff.2 rfl
      rw [this] at hb3
      cases hb3
     rw [hstep,if_neg hne,hd,List.take_add_one,hy]
     rfl
   ·rw [hb3]
    have hxy:x = y:=(eqHop_iff.1 hb3).symm
    rw [if_pos hxy,hd] at hstep
    refine WK.condT rfl ?_
    refine WK.sr mixed ?_
    iterate 2 refine GX.m rfl ?_
    refine GX.pure (v':=.own 1 2 i (L.length - i)) rfl rfl rfl (core_sliceRlo (c:=THop.c) (L:=L) i rfl rfl (Nat.le_of_lt hlt) rfl) rfl ?_
    refine GX.m rfl ?_
    refine GX.done ?_
    refine WK.seq ?_
    refine WK.seq ?_
    refine WK.regx mixed ?_
    refine GX.m rfl ?_
    refine GX.done ?_
    refine WK.forK (fun k s=>∃ (j q:Nat) (R:List THop),1 ≤ j ∧ i + j ≤ L.length ∧ k = L.length - i - j ∧ i ≤ q ∧ q < i + j ∧ R.length = L.length ∧ R.take q = compactQ eqHop (L.take (i + j)) ∧ (∀ z,i + j - 1 ≤ z → R[z]? = L[z]?) ∧
     s = ⟨[(0,.own 1 2 0 L.length),(3,.int .i64 (q:Int)),(4,.own 1 2 i (L.length - i)),(5,.int .i64 (j:Int))],[(1,.row 2 T (R.map THop.c))],2⟩) (L.length - i - 1) ?_ ?_
    ·refine ⟨⟨[(0,.own 1 2 0 L.length),(3,.int .i64 (i:Int)),(4,.own 1 2 i (L.length - i)),(5,.int .i64 ((1:Nat):Int))],[(1,.row 2 T (L.map THop.c))],2⟩,?_,1,i,L,Nat.le_refl _,by omega,rfl,Nat.le_refl _,by omega,rfl,hstep.symm,fun _ _=>rfl,rfl⟩
     exact Conv.keepR [0,1] [] [0,3,4,5] rfl rfl (qx rfl rfl (qx rfl rfl (qx rfl rfl (qx rfl rfl qy)))) rfl rfl
    rintro k2 s2 ⟨j,q,R,j1,jn,rfl,q1,q2,hRl,hRt,hRd,rfl⟩ again2 out2 Q2 hagain2 hout2 hQ2
    refine WK.seq ?_
    refine WK.sr mixed ?_
    iterate 2 refine GX.m rfl ?_
    refine GX.q (.int .i64 ((L.length - i:Nat):Int)) ?_
    refine GX.q (.bool (decide ((j:Int) < ((L.length - i:Nat):Int)))) ?_
    refine GX.done ?_
    rcases qq (decide ((j:Int) < ((L.length - i:Nat):Int))) with hb4 | hb4
    ·rw [hb4]
     refine WK.condF rfl ?_
     refine WK.exit ?_
     refine QF.exit (hout2 _ ?_)
     have hj:i + j = L.length:=by simp only [decide_eq_false_iff_not] at hb4; omega
     rw [hj,List.take_length] at hRt
     refine WK.sr mixed ?_
     iterate 2 refine GX.m rfl ?_
     refine GX.pure (v':=.own 1 2 q (L.length - q)) rfl rfl rfl (core_sliceRlo (c:=THop.c) (L:=R) q rfl rfl (by omega) rfl) rfl ?_
     refine GX.step0 (zx:=[(1,.row 2 T ((R.take q ++ List.replicate (R.length - q) (⟨0,0⟩ : THop)).map THop.c))]) (zy:=2) rfl rfl (core_clearT (c:=THop.c) (L:=R) (x0:=⟨0,0⟩) (lo:=q) rfl (by omega) (by omega) (by omega) rfl) rfl rfl ?_
     refine GX.done ?_
     have hlq:(R.take q ++ List.replicate (R.length - q) (⟨0,0⟩ : THop)).length = L.length:=by simp; omega
     generalize hR2:R.take q ++ List.replicate (R.length - q) (⟨0,0⟩ : THop) = R2 at hlq ⊢
     have hR2t:R2.take q = compactQ eqHop L:=by
      rw [← hR2,List.take_left' (by rw [List.length_take]; omega),hRt]
     refine WK.sr mixed ?_
     iterate 2 refine GX.m rfl ?_
     refine GX.pure (v':=.own 1 2 0 q) rfl rfl rfl (core_sliceH (R:=R2) rfl hlq (by omega)) rfl ?_
     refine GX.m rfl ?_
     refine GX.done ?_
     refine WK.truncT (c:=THop.c) (L:=R2) (id:=1) (zx:=[(1,.row 2 T ((compactQ eqHop L).map THop.c))]) q rfl (by simp) (by rw [hR2t]; rfl) ?_
     refine WK.ret ?_
     have hql:q = (compactQ eqHop L).length:=by rw [← hRt,List.length_take]; omega
     rw [hql]
     refine QF.ret ?_
     refine QF.ret (hQ _ _ ?_)
     exact RetQ.ret [0,1] [] (.inr rfl) rfl rfl rfl rfl rfl .refl rfl
    ·rw [hb4]
     refine WK.condT rfl ?_
     refine WK.skip ?_
     have hjl:i + j < L.length:=by simp only [decide_eq_true_eq] at hb4; omega
     obtain ⟨y2,hy2⟩ : ∃ y,L[i + j]? = some y:=⟨_,List.getElem?_eq_getElem hjl⟩
     obtain ⟨x2,hx2⟩ : ∃ x,L[i + j - 1]? = some x:=⟨_,List.getElem?_eq_getElem (by omega)⟩
     have hstep2:=dd_take (i:=i + j) (by omega) hx2 hy2
     have hy2':R[i + j]? = some y2:=by rw [hRd _ (by omega)]; exact hy2
     have hx2':R[i + (j - 1)]? = some x2:=by rw [hRd _ (by omega),show i + (j - 1) = i + j - 1 by omega]; exact hx2
     refine WK.seq ?_
     refine WK.blockK (fun K2 hK2=>?_)
     refine WK.seq ?_
     refine WK.drawn mixed ?_
     iterate 2 refine RD.m rfl ?_
     refine RD.pure (v':=.eptr 1 2 (i + j) 0) rfl rfl rfl (core_idxoff (L:=R) rfl (by omega) (by omega)) rfl ?_
     refine RD.pure (v':=.agg (THop.c y2)) rfl rfl rfl (core_loaC rfl hy2') rfl ?_
     iterate 2 refine RD.m rfl ?_
     refine RD.pure (v':=.int .i64 ((j - 1:Nat):Int)) rfl rfl rfl (core_subC j1 (by omega)) rfl ?_
     refine RD.pure (v':=.eptr 1 2 (i + (j - 1)) 0) rfl rfl rfl (core_idxoff (L:=R) rfl (by omega) (by omega)) rfl ?_
     refine RD.pure (v':=.agg (THop.c x2)) rfl rfl rfl (core_loaC rfl hx2') rfl ?_
     refine RD.pure (v':=.bool (!eqHop y2 x2)) rfl rfl rfl core_neC rfl ?_
     refine RD.done rfl ?_
     rcases qq (eqHop y2 x2) with hb5 | hb5
     ·rw [hb5]
      have hne:x2 ≠ y2:=fun e=>by
       subst e
       have:eqHop x2 x2 = true:=eqHop_iff.2 rfl
       rw [this] at hb5
       cases hb5
      rw [if_neg hne] at hstep2
      obtain ⟨w2,hw2⟩ : ∃ w,R[q]? = some w:=⟨_,List.getElem?_eq_getElem (by omega)⟩
      refine WK.condT rfl ?_
      refine WK.sr mixed ?_
      iterate 4 refine GX.m rfl ?_
      refine GX.pure (v':=.eptr 1 2 (i + j) 0) rfl rfl rfl (core_idxoff (L:=R) rfl (by omega) (by omega)) rfl ?_
      refine GX.pure (v':=.agg (THop.c y2)) rfl rfl rfl (core_loaC rfl hy2') rfl ?_
      refine GX.pure (v':=.eptr 1 2 q 0) rfl rfl rfl (core_idxL (L:=R) rfl (by omega) (by omega)) rfl ?_
      refine GX.step0 (zx:=[(1,.row 2 T ((R.set q y2).map THop.c))]) (zy:=2) rfl rfl (core_stoC rfl hw2) rfl rfl ?_
      refine GX.done ?_
      refine WK.regx mixed ?_
      refine GX.m rfl ?_
      refine GX.pure (v':=.int .i64 ((q + 1:Nat):Int)) rfl rfl rfl (core_addC (by omega)) rfl ?_
      refine GX.m rfl ?_
      refine GX.done ?_
      refine WK.nil (QF.normal (hK2 _ ?_))
      refine WK.regx mixed ?_
      refine GX.m rfl ?_
      refine GX.pure (v':=.int .i64 ((j + 1:Nat):Int)) rfl rfl rfl (core_addC (by omega)) rfl ?_
      refine GX.m rfl ?_
      refine GX.done ?_
      refine WK.nil (QF.normal ?_)
      refine hagain2 _ (L.length - i - (j + 1)) ⟨[(0,.own 1 2 0 L.length),(3,.int .i64 ((q + 1:Nat):Int)),(4,.own 1 2 i (L.length - i)),(5,.int .i64 ((j + 1:Nat):Int))],[(1,.row 2 T ((R.set q y2).map THop.c))],2⟩ (by omega) ?_ ⟨j + 1,q + 1,R.set q y2,by omega,by omega,rfl,by omega,by omega,by simp [hRl],?_,fun z hz=>?_,rfl⟩
      ·exact Conv.keepR [0,1] [] [0,3,4,5] rfl rfl (qx rfl rfl (qx rfl rfl (qx rfl rfl (qx rfl rfl qy)))) rfl rfl
      ·rw [← Nat.add_assoc,hstep2,List.take_add_one,List.getElem?_set_self (by omega),List.take_set_of_le (Nat.le_refl _),hRt]
       rfl
      ·rw [List.getElem?_set_ne (by omega)]
       exact hRd z (by omega)
     ·rw [hb5]
      have he:x2 = y2:=(eqHop_iff.1 hb5).symm
      rw [if_pos he] at hstep2
      refine WK.condF rfl ?_
      refine WK.skip ?_
      refine WK.nil (QF.normal (hK2 _ ?_))
      refine WK.regx mixed ?_
      refine GX.m rfl ?_
      refine GX.pure (v':=.int .i64 ((j + 1:Nat):Int)) rfl rfl rfl (core_addC (by omega)) rfl ?_
      refine GX.m rfl ?_
      refine GX.done ?_
      refine WK.nil (QF.normal ?_)
      refine hagain2 _ (L.length - i - (j + 1)) ⟨[(0,.own 1 2 0 L.length),(3,.int .i64 (q:Int)),(4,.own 1 2 i (L.length - i)),(5,.int .i64 ((j + 1:Nat):Int))],[(1,.row 2 T (R.map THop.c))],2⟩ (by omega) ?_ ⟨j + 1,q,R,by omega,by omega,rfl,by omega,by omega,hRl,?_,fun z hz=>hRd z (by omega),rfl⟩
      ·exact Conv.keepR [0,1] [] [0,3,4,5] rfl rfl (qx rfl rfl (qx rfl rfl (qx rfl rfl (qx rfl rfl qy)))) rfl rfl
      ·rw [← Nat.add_assoc,hstep2,hRt]
 ·rw [hb]
  have hn:L.length < 2:=by simp only [decide_eq_true_eq] at hb; omega
  have he:compactQ eqHop L = L:=by
   match L,hn with
   | [],_=>simp [compactQ]
   | [x],_=>simp [compactQ]
   | _ :: _ :: _,hn=>simp at hn; omega
  refine WK.condT rfl ?_
  refine WK.sr mixed ?_
  iterate 2 refine GX.m rfl ?_
  refine GX.done ?_
  refine WK.ret ?_
  rw [he]
  exact RetQ.ret [0,1] [] (.inr rfl) rfl rfl rfl rfl rfl .refl rfl
theorem f41_okN (T:TypeId) (L:List THop) (n:Nat) (hn:n = L.length) (hl:L.length < 1099511627776):FnOk Tryz.prog 41 [.own 0 2 0 n] [(0,.row 2 T (L.map THop.c))] 1 (.own 1 2 0 (compactQ eqHop L).length) [(1,.row 2 T ((compactQ eqHop L).map THop.c))] 2:=by
 subst hn
 exact f41_ok T L hl
end Go.Proofs.YtakallenldpkiaaGreatDoor.Abs
end
section
set_option linter.unusedVariables false
set_option linter.unusedSimpArgs false
namespace Go.Proofs.YtakallenldpkiaaGreatDoor.Abs
open Go Go.Shelf Go.RowKit Go.Sort Go.Lib
theorem fmt_outer (u:Nat) (hu64:u < 18446744073709551616) (w:World) (htab:Lib.TabIs Tryz.prog w "internal/strconv.uint64pow10" .u64 Lib.pow10Tab) :
  Calls Tryz.prog 63 #[.int .u64 u,.int .i64 10] w fun e w'=>e = .returned (.string ⟨(Lib.decDigits u).toArray⟩) ∧ ∃ k os,w' = grow (w.drewN k) os:=by
 have mixed:Tryz.prog.follows .mixedOrders = true:=by kernel_rfl
 have t9:=Tryz.underlying9; have a9:=Tryz.isAgg9; have z9:=Tryz.sizeOf9; have v9:=Tryz.zeroValue9
 have e80 : ∀ args w,(callFunc 80 args).run Tryz.prog w = .ok (.enter 80 args) w:=enters_of Tryz.func80 (by kernel_rfl) rfl
 go_enter Tryz.func63,Tryz.ntmps63
 go_wp2_with (go_at_fn 80; refine (Fu.fmt_inner u hu64 _ htab).mono ?_; rintro e w' ⟨rfl,k,os,rfl⟩)
 go_ret
 exact ⟨rfl,k,os,rfl⟩
theorem f63_ok (u b:Int) (R:ByteArray) (hR:fmtuO u b = some R):FnOk Tryz.prog 63 [.int .u64 u,.int .i64 b] [] 0 (.str R) [] 0:=by
 unfold fmtuO at hR
 split at hR
 ·rename_i h
  obtain ⟨h0,h1,rfl⟩:=h
  injection hR with hR
  subst hR
  refine FnOk.of_below (enters_of Tryz.func63 (by kernel_rfl) rfl) fun m ok w vs hH hr=>?_
  obtain ⟨hl,hr⟩:=hr
  match vs,hl with
  | [a,b],_ =>
  have e0:=hr 0 _ _ rfl rfl
  have e1:=hr 1 _ _ rfl rfl
  cases e0
  cases e1
  obtain ⟨n,rfl⟩ : ∃ n:Nat,u = n:=⟨u.toNat,by omega⟩
  refine (fmt_outer n (by omega) w (glob_tab (b:=0) (by kernel_rfl) (.head _) hH)).mono ?_
  rintro e w' ⟨rfl,k,os,rfl⟩
  have:fmtuS (n:Int) = ⟨(Lib.decDigits n).toArray⟩:=by
   unfold fmtuS bytesOf
   rw [Int.toNat_natCast,digsF_eq 20 n (by omega) (by decide)]
  rw [this]
  exact ⟨_,rfl,grow_below w k os,.str⟩
 ·cases hR
theorem f62_ok (n:Int) (R:ByteArray) (hR:itoaO n = some R):FnOk Tryz.prog 62 [.int .i64 n] [] 0 (.str R) [] 0 :=
 itoaO_ok (ρ:=Tryz.laysM171_ren) Tryz.laysM171 (enters_of Tryz.func62 (by kernel_rfl) rfl) (b:=0) (by kernel_rfl) (.head _) n R hR
theorem f64_ok (xs:List ByteArray) (sep R:ByteArray) (hR:joinO xs sep = some R):FnOk Tryz.prog 64 [.ro 1 (xs.map c_str),.str sep] [] 0 (.str R) [] 0 :=
 joinO_ok (ρ:=Tryz.lays156_ren) Tryz.lays156 Tryz.Builder_Extra_156 (enters_of Tryz.func64 (by kernel_rfl) rfl) xs sep R hR
theorem cmp_i (x y:Int):F39 x y = if x < y then -1 else if y < x then 1 else 0:=by
 unfold F39 F54
 by_cases h1:x < y <;> by_cases h2:y < x <;> simp [h1,h2]
theorem cmp_u (x y:Int):F40 x y = if x < y then -1 else if y < x then 1 else 0:=by
 unfold F40 F55
 by_cases h1:x < y <;> by_cases h2:y < x <;> simp [h1,h2]
theorem or2 (x y:Int):F38 [x,y] = if x = 0 then y else x:=by
 unfold F38
 by_cases hx:x = 0
 ·by_cases hy:y = 0 <;> simp [F38l1,hx,hy]
 ·simp [F38l1,hx]
theorem cmp_hop (a b:THop):F37 a b = if a.Iface < b.Iface then -1 else if b.Iface < a.Iface then 1 else if a.Gate < b.Gate then -1 else if b.Gate < a.Gate then 1 else 0:=by
 unfold F37
 simp only [or2,cmp_i,cmp_u]
 by_cases h1:a.Iface < b.Iface <;> by_cases h2:b.Iface < a.Iface <;> simp [h1,h2]
theorem lt_hop (a b:THop):ltOf F37 a b = decide (a.Iface < b.Iface ∨ (a.Iface = b.Iface ∧ a.Gate < b.Gate)):=by
 unfold ltOf
 rw [cmp_hop]
 by_cases h1:a.Iface < b.Iface
 ·simp [h1]
 ·by_cases h2:b.Iface < a.Iface
  ·have:a.Iface ≠ b.Iface:=by omega
   simp [h1,h2,this]
  ·have:a.Iface = b.Iface:=by omega
   by_cases h3:a.Gate < b.Gate
   ·simp [h1,h2,h3,this]
   ·by_cases h4:b.Gate < a.Gate <;> simp [h1,h2,h3,h4,this]
theorem swo_hop:SWO (ltOf F37) where
 irrefl x:=by rw [lt_hop]; simp
 trans x y z h1 h2:=by rw [lt_hop] at *; simp at *; omega
 ntrans x y z h1 h2:=by rw [lt_hop] at *; simp at *; omega
theorem tot_hop (x y:THop) (h1:ltOf F37 x y = false) (h2:ltOf F37 y x = false):x = y:=by
 rw [lt_hop] at h1 h2
 obtain ⟨a,b⟩:=x
 obtain ⟨c,d⟩:=y
 simp at h1 h2
 have:a = c:=by omega
 subst this
 have:b = d:=by
  have:=h1.2 rfl
  have:=h2.2 rfl
  omega
 rw [this]
theorem f36_ok (ty:TypeId) (L:List THop) (hL:L.length < 1099511627776):FnOk Tryz.prog 36 [.own 0 2 0 L.length,.fn 37 [] []] [(0,.row 2 ty (L.map THop.c))] 1 (.tup []) [(0,.row 2 ty ((sortQ F37 L).map THop.c))] 1 :=
 sort_ok (ρ:=Tryz.sortH_ren) (c:=THop.c) (ks:=[.int .i64,.int .u32]) Tryz.sortH (enters_of Tryz.func36 (by kernel_rfl) rfl) (by decide) (by intro w; exact Tryz.isAgg63 w) (by intro w; exact Tryz.sizeOf63 w) (fun x=>⟨_,rfl⟩) (fun x=>rfl) F37 swo_hop tot_hop 37
  (fun x y=>@f37_ok ⟨true⟩ x y _ rfl) ty L (by omega)
theorem may03_len {p:qk} {c:Bool} (h:F8 p = c) (hc:c = true):p.N ≤ 32:=by
 subst hc
 unfold F8 at h
 by_cases h1:p.N < 0
 ·omega
 ·by_cases h2:32 < p.N
  ·simp [h1,h2] at h
  ·omega
end Go.Proofs.YtakallenldpkiaaGreatDoor.Abs
end
