/- rib.All: a range over the function that living hands back. -/
import Derived.Test.YtmfggjebbhdejaaGreatEn
import Derived.Test.YtmfggjebbhdejaaGreatS1
import Derived.Test.YtmfggjebbhdejaaGreatA30
import Derived.Test.YtmfggjebbhdejaaGreatA35
import Derived.Test.YtmfggjebbhdejaaGreatA33
set_option linter.unusedVariables false
set_option linter.unusedSimpArgs false
set_option maxRecDepth 10000
set_option maxHeartbeats 4000000
namespace Go.Proofs.YtmfggjebbhdejaaGreat.Abs
open Go
theorem F168lt1 {h:zv → Bool} : ∀ (l:List zv) (i:Nat) (r:Int),F168l1 h i l = .error r → ∃ j:Nat,r = (j:Int) ∧ i ≤ j ∧ j < i + l.length
  | [],i,r,e=>by simp [F168l1] at e
  | x :: l,i,r,e=>by
    unfold F168l1 at e
    try dsimp only at e
    cases hb:(h x) with
    | true =>
      rw [hb,cond_true] at e
      injection e with e
      exact ⟨i,e.symm,Nat.le_refl _,by simp⟩
    | false =>
      rw [hb,cond_false] at e
      obtain ⟨j,h1,h2,h3⟩:=F168lt1 l (i + 1) r e
      exact ⟨j,h1,by omega,by simp; omega⟩
theorem F168lt {l:List zv} {h:zv → Bool} {c:Int} (e:F168 l h = c) (hc:decide (c < 0) = false):c.toNat < l.length:=by
  unfold F168 at e
  rw [decide_eq_false_iff_not] at hc
  split at e
  · rename_i r hr
    obtain ⟨j,h1,h2,h3⟩:=F168lt1 l 0 r hr
    omega
  · omega
theorem F119lt1 {h:zx → Bool} : ∀ (l:List zx) (i:Nat) (r:Int),F119l1 h i l = .error r → ∃ j:Nat,r = (j:Int) ∧ i ≤ j ∧ j < i + l.length
  | [],i,r,e=>by simp [F119l1] at e
  | x :: l,i,r,e=>by
    unfold F119l1 at e
    try dsimp only at e
    cases hb:(h x) with
    | true =>
      rw [hb,cond_true] at e
      injection e with e
      exact ⟨i,e.symm,Nat.le_refl _,by simp⟩
    | false =>
      rw [hb,cond_false] at e
      obtain ⟨j,h1,h2,h3⟩:=F119lt1 l (i + 1) r e
      exact ⟨j,h1,by omega,by simp; omega⟩
theorem F119lt {l:List zx} {h:zx → Bool} {c:Int} (e:F119 l h = c) (hc:decide (c < 0) = false):c.toNat < l.length:=by
  unfold F119 at e
  rw [decide_eq_false_iff_not] at hc
  split at e
  · rename_i r hr
    obtain ⟨j,h1,h2,h3⟩:=F119lt1 l 0 r hr
    omega
  · omega
theorem f86_ok (t:qk):FnOk Tryz.prog 86 [.agg (qk.c t)] [] 0 (.fn 116 [] [.rptr (qk.c t)]) [] 0:=by
  refine FnOk.wk i86 rfl rfl ?_
  change WK _ _ _ [ac86] _ ⟨[(0,.agg (qk.c t))],[],0⟩
  unfold ac86
  refine WK.sr qv ?_
  refine GX.step (v':=.ptr 0 0) (zj:=[(0,.box (qk.c t))]) (zk:=1) rfl rfl rfl rfl rfl rfl rfl ?_
  refine GX.m rfl ?_
  refine GX.done ?_
  refine WK.sr qv ?_
  refine GX.q (.fn 116 [] [.ptr 0 0]) ?_
  refine GX.m rfl ?_
  refine GX.done ?_
  refine WK.ret ?_
  exact RetQ.fr [0] (.inr rfl) rfl rfl rfl rfl
theorem livesL_take {t:qk} : ∀ {r:List qj} {l:List qj},livesL t r = some l → ∀ i,i < r.length → ∃ l1 x ok l2,livesL t (r.take i) = some l1 ∧ F117 t (r.getD i default) = some (x,ok) ∧ livesL t (r.take (i + 1)) = some (bif ok then l1 ++ [x] else l1) ∧ l = (bif ok then l1 ++ [x] else l1) ++ l2
  | [],l,h,i,hi=>by simp at hi
  | c :: r,l,h,i,hi=>by
    rw [livesL] at h
    cases hc:F117 t c with
    | none=>rw [hc] at h; cases h
    | some y =>
      obtain ⟨x,ok⟩:=y
      rw [hc] at h
      simp only at h
      cases hr:livesL t r with
      | none=>rw [hr] at h; cases h
      | some l' =>
        rw [hr] at h
        simp only at h
        injection h with h
        subst h
        cases i with
        | zero =>
          refine ⟨[],x,ok,l',rfl,hc,?_,?_⟩
          · simp only [Nat.zero_add,List.take_succ_cons,List.take_zero,livesL,hc]
            cases ok <;> rfl
          · cases ok <;> rfl
        | succ i =>
          obtain ⟨l1,x2,ok2,l2,h1,h2,h3,h4⟩:=livesL_take hr i (by simpa using hi)
          refine ⟨bif ok then x :: l1 else l1,x2,ok2,l2,?_,by simpa using h2,?_,?_⟩
          · simp only [List.take_succ_cons,livesL,hc,h1]
          · rw [List.take_succ_cons,livesL,hc,h3]
            cases ok <;> cases ok2 <;> rfl
          · rw [h4]
            cases ok <;> cases ok2 <;> rfl
theorem livesL_full {t:qk} {r l:List qj} (h:livesL t r = some l):livesL t (r.take r.length) = some l:=by rw [List.take_length]; exact h
theorem iter116 (h117 : ∀ (t0:qk) (c1:qj) (R:qj × Bool),F117 t0 c1 = some R → FnOk Tryz.prog 117 [.agg (qk.c t0),.agg (qj.c c1)] [] 0 (.tup [.agg (qj.c R.1),.bool R.2]) [] 0) (t:qk) {l0:List qj} (hl0:livesL t t.L = some l0) :
    IterOk Tryz.prog 116 [.rptr (qk.c t)] (l0.map fun c=>.agg (qj.c c)):=by
  obtain ⟨c,hb,hac⟩ : ∃ c,Tryz.f116.body = some c ∧ transC Tryz.prog c = some ac116:=⟨_,rfl,by kernel_rfl⟩
  refine IterOk.of Tryz.func116 (by kernel_rfl) hb hac (by kernel_rfl) (Nat.le_of_ble_eq_true (by kernel_rfl)) rfl fun l J hY=>?_
  change IW Tryz.prog 28 J ac116 _ 0 ⟨[(0,.yld l),(1,.rptr (qk.c t))],[],0⟩
  unfold ac116
  refine IW.seq (IW.ofC (W.wk (WK.regx qv ?_)))
  refine GX.q (.rptr [.ro 10 (t.L.map qj.c)]) ?_
  refine GX.q (.ro 10 (t.L.map qj.c)) ?_
  refine GX.pure (v':=.int .i64 (t.L.length:Int)) rfl rfl rfl rfl (ww _ _) ?_
  refine GX.m rfl ?_
  refine GX.done (WK.nil ?_)
  refine ⟨⟨[(0,.yld l),(1,.rptr (qk.c t)),(8,.ro 10 (t.L.map qj.c)),(9,.int .i64 (t.L.length:Int)),(10,.int .i64 ((0:Nat):Int))],[],0⟩,Conv.keep [] [] [0,1,8,9,10] rfl rfl (qx rfl rfl (qx rfl rfl (qx rfl rfl (qx rfl rfl (qx rfl rfl qy))))) rfl rfl,?_⟩
  show IW Tryz.prog 28 J (.block 0 (.loop ac116_1)) _ 0 _
  refine IW.block (IW.len (t:=8) rfl fun hlen=>?_)
  rw [List.length_map] at hlen
  refine IW.loop (fun f k s=>∃ i:Nat,i ≤ t.L.length ∧ f = t.L.length - i ∧ (∃ li,livesL t (t.L.take i) = some li ∧ k = li.length) ∧ s = ⟨[(0,.yld l),(1,.rptr (qk.c t)),(8,.ro 10 (t.L.map qj.c)),(9,.int .i64 (t.L.length:Int)),(10,.int .i64 (i:Int))],[],0⟩) t.L.length
    ⟨0,Nat.zero_le _,rfl,⟨[],by simp [livesL],rfl⟩,rfl⟩ ?_
  rintro f k s ⟨i,hi,rfl,⟨li,hli,rfl⟩,rfl⟩
  unfold ac116_1
  refine IW.seq (IW.of (W.wk (WK.regx qv ?_)))
  refine GX.q (.bool (decide ((i:Int) < (t.L.length:Int)))) ?_
  refine GX.done (WK.nil ?_)
  show IW Tryz.prog 28 J _ _ _ _
  refine IW.seq ?_
  rcases qq (decide ((i:Int) < (t.L.length:Int))) with hb | hb
  · rw [hb]
    refine IW.cond (b:=false) rfl (fun h=>by cases h) (fun _=>?_)
    refine IW.of (W.exit ?_)
    have hi':i = t.L.length:=by have:=of_decide_eq_false hb; omega
    subst hi'
    rw [livesL_full hl0] at hli
    injection hli with hli
    subst hli
    show (Exit.normal = Exit.normal ∨ Exit.normal = Exit.ret) ∧ _ = _
    exact ⟨.inl rfl,by simp⟩
  · rw [hb]
    obtain ⟨x52,hx,hd,hlt⟩:=drop_more hb
    obtain ⟨l1,x,ok,l2,e1,e2,e3,e4⟩:=livesL_take hl0 i hlt
    rw [hli] at e1
    injection e1 with e1
    subst e1
    have hx52:t.L.getD i default = x52:=by
      have:t.L[i]? = some x52:=by simpa using hx
      simp [List.getD,this]
    rw [hx52] at e2
    refine IW.cond (b:=true) rfl (fun _=>?_) (fun h=>by cases h)
    refine IW.of (W.skip ?_)
    show IW Tryz.prog 28 J _ _ _ _
    refine IW.seq (IW.block ?_)
    refine IW.seq (IW.of (W.wk (WK.regx qv ?_)))
    refine GX.idxT (c:=qj.c) (x:=x52) rfl rfl rfl (Int.natCast_nonneg _) hx ?_
    refine GX.q (.agg (qj.c x52)) ?_
    refine GX.step (v':=.ptr 0 0) (zj:=[(0,.box [.int .u32 0,.int .i64 0,.int .i64 0,.int .i64 0,.int .i64 0,.int .i64 0,.int .u32 0,.bool false,.int .i64 0,.nils])]) (zk:=1) rfl rfl rfl rfl rfl rfl rfl ?_
    refine GX.step0 (zj:=[(0,.box (qj.c x52))]) (zk:=1) rfl rfl rfl rfl rfl ?_
    refine GX.done (WK.nil ?_)
    show IW Tryz.prog 28 J _ _ _ _
    refine IW.seq (IW.of (W.wk (WK.regx qv ?_)))
    refine GX.q (.agg (qk.c t)) ?_
    refine GX.q (.agg (qj.c x52)) ?_
    refine GX.callp (r:=.tup [.agg (qj.c x),.bool ok]) rfl rfl rfl (h117 t x52 (x,ok) e2) rfl rfl ?_
    refine GX.m rfl ?_
    refine GX.q (.agg (qj.c x)) ?_
    refine GX.q (.bool ok) ?_
    refine GX.step (v':=.ptr 1 0) (zj:=[(0,.box (qj.c x52)),(1,.box [.int .u32 0,.int .i64 0,.int .i64 0,.int .i64 0,.int .i64 0,.int .i64 0,.int .u32 0,.bool false,.int .i64 0,.nils])]) (zk:=2) rfl rfl rfl rfl rfl rfl rfl ?_
    refine GX.step0 (zj:=[(0,.box (qj.c x52)),(1,.box (qj.c x))]) (zk:=2) rfl rfl rfl rfl rfl ?_
    refine GX.m rfl ?_
    refine GX.done (WK.nil ?_)
    show IW Tryz.prog 28 J _ _ _ _
    refine IW.seq ?_
    cases ok with
    | false =>
      refine IW.of (W.wk (WK.regx qv ?_))
      refine GX.m rfl ?_
      refine GX.m rfl ?_
      iterate 4 refine GX.skip rfl rfl ?_
      refine GX.q (.bool false) ?_
      refine GX.done (WK.nil ?_)
      show IW Tryz.prog 28 J _ _ _ _
      refine IW.cond (b:=false) rfl (fun h=>by cases h) (fun _=>?_)
      refine IW.of (W.skip ?_)
      show IW Tryz.prog 28 J _ _ _ _
      refine IW.ofC (W.wk (WK.regx qv ?_))
      refine GX.pure (v':=.int .i64 ((i + 1:Nat):Int)) rfl rfl rfl rfl (congrArg (PVal.int .i64) (wrap_up hlt hlen)) ?_
      refine GX.m rfl ?_
      refine GX.done (WK.nil ?_)
      exact ⟨⟨[(0,.yld l),(1,.rptr (qk.c t)),(8,.ro 10 (t.L.map qj.c)),(9,.int .i64 (t.L.length:Int)),(10,.int .i64 ((i + 1:Nat):Int))],[],0⟩,Conv.keep [] [] [0,1,8,9,10] rfl rfl (qx rfl rfl (qx rfl rfl (qx rfl rfl (qx rfl rfl (qx rfl rfl qy))))) rfl rfl,
        t.L.length - (i + 1),by omega,i + 1,hlt,rfl,⟨_,e3,rfl⟩,rfl⟩
    | true =>
      have hk:(l0.map fun c=>PVal.agg (qj.c c))[li.length]? = some (.agg (qj.c x)):=by
        rw [e4]
        simp
      refine IW.regG (pre:=[⟨some 20,none,.mov,[.t 6]⟩,⟨some 21,none,.mov,[.t 20]⟩,⟨some 22,some (21,true),.mov,[.t 0]⟩,⟨some 23,some (21,true),.load (some 10),[.t 5]⟩]) (ao:=⟨some 24,some (21,true),.callv,[.t 22,.t 23]⟩) (post:=[⟨some 25,some (21,true),.unNot,[.t 24]⟩,⟨some 26,none,.pick,[.t 21,.t 25,.c (.bool false)]⟩]) hY rfl rfl rfl ?_
      refine GX.m rfl ?_
      refine GX.m rfl ?_
      refine GX.m rfl ?_
      refine GX.q (.agg (qj.c x)) ?_
      refine GX.done ⟨.agg (qj.c x),[0,1,8,9,10,21],[(0,.yld l),(1,.rptr (qk.c t)),(8,.ro 10 (t.L.map qj.c)),(9,.int .i64 (t.L.length:Int)),(10,.int .i64 (i:Int)),(21,.bool true)],rfl,rfl,rfl,hk,rfl,rfl,?_⟩
      refine GX.q (.bool false) ?_
      refine GX.q (.bool false) ?_
      refine GX.done ?_
      show IW Tryz.prog 28 J _ _ _ _
      refine IW.cond (b:=false) rfl (fun h=>by cases h) (fun _=>?_)
      refine IW.of (W.skip ?_)
      show IW Tryz.prog 28 J _ _ _ _
      refine IW.ofC (W.wk (WK.regx qv ?_))
      refine GX.pure (v':=.int .i64 ((i + 1:Nat):Int)) rfl rfl rfl rfl (congrArg (PVal.int .i64) (wrap_up hlt hlen)) ?_
      refine GX.m rfl ?_
      refine GX.done (WK.nil ?_)
      exact ⟨⟨[(0,.yld l),(1,.rptr (qk.c t)),(8,.ro 10 (t.L.map qj.c)),(9,.int .i64 (t.L.length:Int)),(10,.int .i64 ((i + 1:Nat):Int))],[],0⟩,Conv.keep [] [] [0,1,8,9,10] rfl rfl (qx rfl rfl (qx rfl rfl (qx rfl rfl (qx rfl rfl (qx rfl rfl qy))))) rfl rfl,
        t.L.length - (i + 1),by omega,i + 1,hlt,rfl,⟨_,e3,by simp⟩,rfl⟩
def r36a:AC:=.reg []
    [⟨some 4,none,.alloc [.int .u32 0,.int .i64 0,.int .i64 0,.int .i64 0,.int .i64 0,.int .i64 0,.int .u32 0,.bool false,.int .i64 0,.nils],[]⟩,
     ⟨none,none,.store 10,[.t 4,.t 8]⟩]
def r36b:AC :=
  .block 1 (.seq (.reg []
    [⟨some 9,none,.load none,[.t 3]⟩,
     ⟨some 10,none,.lenL,[.t 9]⟩,
     ⟨some 11,none,.bin .sub .scal,[.t 10,.c (.int .i64 1)]⟩,
     ⟨some 5,none,.mov,[.t 11]⟩])
  (.block 2 (.seq (.reg [[],[0],[1],[2],[2],[3,4,2],[5,2],[6,2],[2],[8,2],[7,9,2],[2,10],[11,2]]
    [⟨some 13,none,.mov,[.t 5]⟩,
     ⟨some 14,none,.bin .lss .scal,[.t 13,.c (.int .i64 0)]⟩,
     ⟨some 15,none,.mov,[.t 14]⟩,
     ⟨some 16,some (15,false),.load none,[.t 3]⟩,
     ⟨some 17,some (15,false),.mov,[.t 5]⟩,
     ⟨some 18,some (15,false),.idxA 10,[.t 16,.t 17]⟩,
     ⟨some 19,some (15,false),.fldA 0,[.t 18]⟩,
     ⟨some 20,some (15,false),.load (some 2),[.t 19]⟩,
     ⟨some 21,some (15,false),.fldA 0,[.t 4]⟩,
     ⟨some 22,some (15,false),.load (some 2),[.t 21]⟩,
     ⟨some 23,some (15,false),.bin .neq (.flat [.int .u32,.int .i64]),[.t 20,.t 22]⟩,
     ⟨some 24,none,.pick,[.t 15,.c (.bool true),.t 23]⟩,
     ⟨some 12,none,.mov,[.t 24]⟩])
  (.cond (.t 12)
  (.reg []
    [⟨some 25,none,.load none,[.t 3]⟩,
     ⟨some 26,none,.load (some 10),[.t 4]⟩,
     ⟨some 27,none,.bslice 10 42,[.t 26]⟩,
     ⟨some 28,none,.append 10 42 88,[.t 25,.t 27]⟩,
     ⟨none,none,.store 1,[.t 3,.t 28]⟩])
  (.seq (.reg [[],[],[],[1,2],[3],[0,4],[5,5]]
    [⟨some 30,none,.load (some 10),[.t 4]⟩,
     ⟨some 31,none,.load none,[.t 3]⟩,
     ⟨some 32,none,.mov,[.t 5]⟩,
     ⟨some 33,none,.idxA 10,[.t 31,.t 32]⟩,
     ⟨some 34,none,.load (some 10),[.t 33]⟩,
     ⟨some 35,none,.call 87,[.t 30,.t 34]⟩,
     ⟨some 29,none,.mov,[.t 35]⟩])
  (.cond (.t 29)
  (.reg []
    [⟨some 36,none,.load none,[.t 3]⟩,
     ⟨some 37,none,.mov,[.t 5]⟩,
     ⟨some 38,none,.load (some 10),[.t 4]⟩,
     ⟨some 39,none,.idxA 10,[.t 36,.t 37]⟩,
     ⟨none,none,.store 10,[.t 39,.t 38]⟩])
  .skip))))))
theorem f44_shape : ∃ c0 c1 c2 ca cb c9,Tryz.f44.body = some (.seq c0 (.seq c1 (.seq (.seq c2 (.block 0 (.rangeFunc (.tmp 7) #[8] ca cb))) (.seq c9 .ret)))) ∧
    transC Tryz.prog c0 = some (.reg [] [⟨some 1,none,.box,[.t 0]⟩,⟨some 2,none,.mov,[.c .nils]⟩]) ∧ transC Tryz.prog c1 = some (.reg [] [⟨some 3,none,.alloc [.nils],[]⟩]) ∧
    transC Tryz.prog c2 = some (.reg [] [⟨some 6,none,.load (some 1),[.t 1]⟩,⟨some 7,none,.call 86,[.t 6]⟩]) ∧ transC Tryz.prog ca = some r36a ∧ transC Tryz.prog cb = some r36b ∧
    transC Tryz.prog c9 = some (.reg [] [⟨some 40,none,.load none,[.t 3]⟩,⟨some 2,none,.mov,[.t 40]⟩]) :=
  ⟨_,_,_,_,_,_,rfl,by kernel_rfl,by kernel_rfl,by kernel_rfl,by kernel_rfl,by kernel_rfl,by kernel_rfl⟩
def I36 (R:List qj) (liv:List qj) (k:Nat) (h:List (AId × AObj)) (nx:Nat):Prop :=
  (h = [(0,.box [.nils])] ∧ nx = 1 ∧ F44 [] (liv.drop k) = some R) ∨ ∃ row1:List qj,F44 row1 (liv.drop k) = some R ∧ h = [(0,.box [.own 1 10 0 row1.length]),(1,.row 10 42 (row1.map qj.c))] ∧ nx = 2
theorem round36 (h87 : ∀ (a0 b1:qj) (R:Bool),F87 a0 b1 = R → FnOk Tryz.prog 87 [.agg (qj.c a0),.agg (qj.c b1)] [] 0 (.bool R) [] 0) {R liv:List qj} {k:Nat} {x52:qj} {env:List (Nat × PVal)} (row1:List qj) (hx:liv.drop k = x52 :: liv.drop (k + 1)) (gg11:F44 row1 (liv.drop k) = some R) :
    WK Tryz.prog 41 1 [r36a,r36b] (fun e s=>∃ s',Conv 1 s s' ∧ e = .normal ∧ I36 R liv (k + 1) s'.heap s'.next) ⟨[(8,.agg (qj.c x52)),(3,.ptr 0 0),(7,.fn 116 [] env.unzip.2)],[(0,.box [.own 1 10 0 row1.length]),(1,.row 10 42 (row1.map qj.c))],2⟩:=by
  rw [hx,F44] at gg11
  unfold r36a
  refine WK.regx qv ?_
  refine GX.step (v':=.ptr 2 0) (zj:=[(0,.box [.own 1 10 0 row1.length]),(1,.row 10 42 (row1.map qj.c)),(2,.box [.int .u32 0,.int .i64 0,.int .i64 0,.int .i64 0,.int .i64 0,.int .i64 0,.int .u32 0,.bool false,.int .i64 0,.nils])]) (zk:=3) rfl rfl rfl rfl rfl rfl rfl ?_
  refine GX.step0 (zj:=[(0,.box [.own 1 10 0 row1.length]),(1,.row 10 42 (row1.map qj.c)),(2,.box (qj.c x52))]) (zk:=3) rfl rfl rfl rfl rfl ?_
  refine GX.done ?_
  unfold r36b
  refine WK.blockK (fun _ hK14=>?_)
  refine WK.sr qv ?_
  refine GX.q (.own 1 10 0 row1.length) ?_
  refine GX.q (.int .i64 (row1.length:Int)) ?_
  refine GX.q (.int .i64 (IntKind.i64.wrap ((row1.length:Int) - 1))) ?_
  refine GX.m rfl ?_
  refine GX.done ?_
  refine WK.blockK (fun _ hK15=>?_)
  refine WK.seq ?_
  refine WK.drawn qv ?_
  refine RD.m rfl ?_
  refine RD.q (.bool (decide (IntKind.i64.wrap ((row1.length:Int) - 1) < 0))) ?_
  refine RD.m rfl ?_
  rcases qq (decide (IntKind.i64.wrap ((row1.length:Int) - 1) < 0)) with hb16 | hb16
  ·rw [hb16]; try simp only [hb16,bb] at gg11
   refine RD.q (.own 1 10 0 row1.length) ?_
   refine RD.m rfl ?_
   generalize hx916:getI row1 (IntKind.i64.wrap ((row1.length:Int) - 1)) = x916 at gg11
   rcases x916 with _ | x916
   ·try dsimp only at gg11
    cases gg11
   try dsimp only at gg11
   obtain ⟨hx9160,hx916j,hx916l,hx916⟩:=kx hx916
   refine RD.pure (v':=.eptr 1 10 ((IntKind.i64.wrap ((row1.length:Int) - 1)).toNat) 0) rfl rfl rfl (core_idxoT (c:=qj.c) (L:=row1) (j:=(IntKind.i64.wrap ((row1.length:Int) - 1)).toNat) rfl hx916j hx916l (by first | (exact Nat.le_refl _) | (simp))) rfl ?_
   refine RD.pure (v':=.eptr 1 10 ((IntKind.i64.wrap ((row1.length:Int) - 1)).toNat) 0) rfl rfl rfl (core_fldT (c:=qj.c) (L:=row1) rfl (by first | (exact wrap_u64_nonneg _) | (exact wrap_u32_nonneg _) | (omega) | (((try simp only [decide_eq_true_eq,decide_eq_false_iff_not,Bool.not_eq_true,Bool.not_eq_false] at *); first | omega | (rw [wrap64_of (by omega) (by omega)]; omega) | (unfold min_ max_; (repeat' split) <;> first | omega | (rw [wrap64_of (by omega) (by omega)]; omega))))) rfl) rfl ?_
   refine RD.pure (v':=.agg [.int .u32 x916.P.A,.int .i64 x916.P.N]) rfl rfl rfl (core_loaT (c:=qj.c) (L:=row1) (x:=x916) rfl hx916 rfl) rfl ?_
   refine RD.q (.ptr 2 0) ?_
   refine RD.q (.agg [.int .u32 x52.P.A,.int .i64 x52.P.N]) ?_
   iterate 2 refine RD.q (.bool (!(decide (x916.P.A = x52.P.A) && (decide (x916.P.N = x52.P.N) && true)))) ?_
   refine RD.m rfl ?_
   refine RD.done rfl ?_
   rcases qq (decide (x916.P.A = x52.P.A) && (decide (x916.P.N = x52.P.N) && true)) with hb18 | hb18
   ·rw [hb18]; try simp only [hb18,bb] at gg11
    refine WK.condT rfl ?_
    refine WK.regx qv ?_
    refine GX.q (.own 1 10 0 row1.length) ?_
    refine GX.q (.agg (qj.c x52)) ?_
    refine GX.step (v':=.own 3 10 0 (([x52]:List qj)).length) (zj:=[(0,.box [.own 1 10 0 row1.length]),(1,.row 10 42 (row1.map qj.c)),(2,.box (qj.c x52)),(3,.row 10 42 (([x52]:List qj).map qj.c))]) (zk:=4) rfl rfl rfl rfl rfl rfl rfl ?_
    rcases qq (decide (row1.length < 1099511627776)) with hg19 | hg19
    ·simp only [hg19,bb] at gg11
     try dsimp only at gg11
     cases gg11
    simp only [hg19,bb] at gg11
    have hg19_:=of_decide_eq_true hg19
    refine GX.appT (c:=qj.c) (L:=row1) (X:=([x52]:List qj)) (zj:=[(0,.box [.own 1 10 0 row1.length]),(2,.box (qj.c x52)),(3,.row 10 42 (([x52]:List qj).map qj.c)),(4,.row 10 42 ((row1 ++ ([x52]:List qj)).map qj.c))]) (zk:=5) rfl rfl rfl rfl (elems_own rfl) (by first | (omega) | (assumption) | (((try simp only [List.length_append,List.length_cons,List.length_nil,List.length_map,decide_eq_true_eq,decide_eq_false_iff_not] at *) <;> omega)) | (exact hp0 _ (List.mem_of_getElem? (by assumption))) | (exact hp1 _ (List.mem_of_getElem? (by assumption))) | (exact hp2 _ (List.mem_of_getElem? (by assumption))) | (exact hp3 _ (List.mem_of_getElem? (by assumption))) | (exact hp4 _ (List.mem_of_getElem? (by assumption))) | (exact hp5 _ (List.mem_of_getElem? (by assumption)))) (by first | (omega) | (assumption) | (((try simp only [List.length_append,List.length_cons,List.length_nil,List.length_map,decide_eq_true_eq,decide_eq_false_iff_not] at *) <;> omega)) | (exact hp0 _ (List.mem_of_getElem? (by assumption))) | (exact hp1 _ (List.mem_of_getElem? (by assumption))) | (exact hp2 _ (List.mem_of_getElem? (by assumption))) | (exact hp3 _ (List.mem_of_getElem? (by assumption))) | (exact hp4 _ (List.mem_of_getElem? (by assumption))) | (exact hp5 _ (List.mem_of_getElem? (by assumption)))) rfl rfl rfl rfl ?_
    refine GX.step0 (zj:=[(0,.box [.own 4 10 0 (row1 ++ ([x52]:List qj)).length]),(2,.box (qj.c x52)),(3,.row 10 42 (([x52]:List qj).map qj.c)),(4,.row 10 42 ((row1 ++ ([x52]:List qj)).map qj.c))]) (zk:=5) rfl rfl rfl rfl rfl ?_
    refine GX.done ?_
    refine WK.nil (QF.normal (hK15 _ ?_))
    refine WK.nil (QF.normal (hK14 _ ?_))
    refine WK.nil ?_
    exact ⟨⟨[],[(0,.box [.own 1 10 0 (row1 ++ ([x52]:List qj)).length]),(1,.row 10 42 ((row1 ++ ([x52]:List qj)).map qj.c))],2⟩,Conv.keep [0,4] [] [] rfl rfl rfl rfl rfl,rfl,.inr ⟨(row1 ++ ([x52]:List qj)),gg11,rfl,rfl⟩⟩
   ·rw [hb18]; try simp only [hb18,bb] at gg11
    refine WK.condF rfl ?_
    refine WK.seq ?_
    refine WK.drawn qv ?_
    refine RD.q (.agg (qj.c x52)) ?_
    refine RD.q (.own 1 10 0 row1.length) ?_
    refine RD.m rfl ?_
    refine RD.pure (v':=.eptr 1 10 ((IntKind.i64.wrap ((row1.length:Int) - 1)).toNat) 0) rfl rfl rfl (core_idxoT (c:=qj.c) (L:=row1) (j:=(IntKind.i64.wrap ((row1.length:Int) - 1)).toNat) rfl hx916j hx916l (by first | (exact Nat.le_refl _) | (simp))) rfl ?_
    refine RD.pure (v':=.agg (qj.c x916)) rfl rfl rfl (core_loaT (c:=qj.c) (L:=row1) (x:=x916) rfl hx916 rfl) rfl ?_
    generalize hc35:F87 x52 x916 = c35 at gg11
    try dsimp only at gg11
    refine RD.callp (r:=.bool c35) rfl rfl rfl (h87 x52 x916 _ hc35) rfl rfl ?_
    refine RD.m rfl ?_
    refine RD.done rfl ?_
    rcases qq (c35) with hb20 | hb20
    ·rw [hb20]; try simp only [hb20,bb] at gg11
     refine WK.condF rfl ?_
     refine WK.skip ?_
     refine WK.nil (QF.normal (hK15 _ ?_))
     refine WK.nil (QF.normal (hK14 _ ?_))
     refine WK.nil ?_
     exact ⟨⟨[],[(0,.box [.own 1 10 0 row1.length]),(1,.row 10 42 (row1.map qj.c))],2⟩,Conv.keep [0,1] [] [] rfl rfl rfl rfl rfl,rfl,.inr ⟨row1,gg11,rfl,rfl⟩⟩
    ·rw [hb20]; try simp only [hb20,bb] at gg11
     refine WK.condT rfl ?_
     refine WK.regx qv ?_
     refine GX.q (.own 1 10 0 row1.length) ?_
     refine GX.m rfl ?_
     refine GX.q (.agg (qj.c x52)) ?_
     refine GX.pure (v':=.eptr 1 10 ((IntKind.i64.wrap ((row1.length:Int) - 1)).toNat) 0) rfl rfl rfl (core_idxoT (c:=qj.c) (L:=row1) (j:=(IntKind.i64.wrap ((row1.length:Int) - 1)).toNat) rfl hx916j hx916l (by first | (exact Nat.le_refl _) | (simp))) rfl ?_
     refine GX.step0 (zj:=[(0,.box [.own 1 10 0 row1.length]),(1,.row 10 42 ((row1.set (IntKind.i64.wrap ((row1.length:Int) - 1)).toNat x52).map qj.c)),(2,.box (qj.c x52))]) (zk:=3) rfl rfl (core_stoT (c:=qj.c) (L:=row1) (x:=x916) (x':=x52) rfl hx916 rfl rfl rfl rfl rfl) rfl rfl ?_
     refine GX.done ?_
     refine WK.nil (QF.normal (hK15 _ ?_))
     refine WK.nil (QF.normal (hK14 _ ?_))
     refine WK.nil ?_
     exact ⟨⟨[],[(0,.box [.own 1 10 0 (row1.set (IntKind.i64.wrap ((row1.length:Int) - 1)).toNat x52).length]),(1,.row 10 42 ((row1.set (IntKind.i64.wrap ((row1.length:Int) - 1)).toNat x52).map qj.c))],2⟩,Conv.keep [0,1] [] [] rfl rfl rfl (wv rfl (viewO_box (qz (viewP_own_len rfl (by simp)) qw)) (wv rfl rfl subH_nil)) rfl,rfl,.inr ⟨(row1.set (IntKind.i64.wrap ((row1.length:Int) - 1)).toNat x52),gg11,rfl,rfl⟩⟩
  ·rw [hb16]; try simp only [hb16,bb] at gg11
   iterate 8 refine RD.skip rfl rfl ?_
   refine RD.q (.bool true) ?_
   refine RD.m rfl ?_
   refine RD.done rfl ?_
   refine WK.condT rfl ?_
   refine WK.regx qv ?_
   refine GX.q (.own 1 10 0 row1.length) ?_
   refine GX.q (.agg (qj.c x52)) ?_
   refine GX.step (v':=.own 3 10 0 (([x52]:List qj)).length) (zj:=[(0,.box [.own 1 10 0 row1.length]),(1,.row 10 42 (row1.map qj.c)),(2,.box (qj.c x52)),(3,.row 10 42 (([x52]:List qj).map qj.c))]) (zk:=4) rfl rfl rfl rfl rfl rfl rfl ?_
   rcases qq (decide (row1.length < 1099511627776)) with hg21 | hg21
   ·simp only [hg21,bb] at gg11
    try dsimp only at gg11
    cases gg11
   simp only [hg21,bb] at gg11
   have hg21_:=of_decide_eq_true hg21
   refine GX.appT (c:=qj.c) (L:=row1) (X:=([x52]:List qj)) (zj:=[(0,.box [.own 1 10 0 row1.length]),(2,.box (qj.c x52)),(3,.row 10 42 (([x52]:List qj).map qj.c)),(4,.row 10 42 ((row1 ++ ([x52]:List qj)).map qj.c))]) (zk:=5) rfl rfl rfl rfl (elems_own rfl) (by first | (omega) | (assumption) | (((try simp only [List.length_append,List.length_cons,List.length_nil,List.length_map,decide_eq_true_eq,decide_eq_false_iff_not] at *) <;> omega)) | (exact hp0 _ (List.mem_of_getElem? (by assumption))) | (exact hp1 _ (List.mem_of_getElem? (by assumption))) | (exact hp2 _ (List.mem_of_getElem? (by assumption))) | (exact hp3 _ (List.mem_of_getElem? (by assumption))) | (exact hp4 _ (List.mem_of_getElem? (by assumption))) | (exact hp5 _ (List.mem_of_getElem? (by assumption)))) (by first | (omega) | (assumption) | (((try simp only [List.length_append,List.length_cons,List.length_nil,List.length_map,decide_eq_true_eq,decide_eq_false_iff_not] at *) <;> omega)) | (exact hp0 _ (List.mem_of_getElem? (by assumption))) | (exact hp1 _ (List.mem_of_getElem? (by assumption))) | (exact hp2 _ (List.mem_of_getElem? (by assumption))) | (exact hp3 _ (List.mem_of_getElem? (by assumption))) | (exact hp4 _ (List.mem_of_getElem? (by assumption))) | (exact hp5 _ (List.mem_of_getElem? (by assumption)))) rfl rfl rfl rfl ?_
   refine GX.step0 (zj:=[(0,.box [.own 4 10 0 (row1 ++ ([x52]:List qj)).length]),(2,.box (qj.c x52)),(3,.row 10 42 (([x52]:List qj).map qj.c)),(4,.row 10 42 ((row1 ++ ([x52]:List qj)).map qj.c))]) (zk:=5) rfl rfl rfl rfl rfl ?_
   refine GX.done ?_
   refine WK.nil (QF.normal (hK15 _ ?_))
   refine WK.nil (QF.normal (hK14 _ ?_))
   refine WK.nil ?_
   exact ⟨⟨[],[(0,.box [.own 1 10 0 (row1 ++ ([x52]:List qj)).length]),(1,.row 10 42 ((row1 ++ ([x52]:List qj)).map qj.c))],2⟩,Conv.keep [0,4] [] [] rfl rfl rfl rfl rfl,rfl,.inr ⟨(row1 ++ ([x52]:List qj)),gg11,rfl,rfl⟩⟩
theorem f44_of (h117 : ∀ (t0:qk) (c1:qj) (R:qj × Bool),F117 t0 c1 = some R → FnOk Tryz.prog 117 [.agg (qk.c t0),.agg (qj.c c1)] [] 0 (.tup [.agg (qj.c R.1),.bool R.2]) [] 0)
    (h87 : ∀ (a0 b1:qj) (R:Bool),F87 a0 b1 = R → FnOk Tryz.prog 87 [.agg (qj.c a0),.agg (qj.c b1)] [] 0 (.bool R) [] 0) (t:qk) (R:List qj) (hR:allO t = some R):FnOk Tryz.prog 44 [.agg (qk.c t)] [] 0 (.ro 10 (R.map qj.c)) [] 0:=by
  unfold allO at hR
  cases hl0:livesL t t.L with
  | none=>rw [hl0] at hR; cases hR
  | some liv =>
    rw [hl0] at hR
    simp only at hR
    obtain ⟨c0,c1,c2,ca,cb,c9,hb,t0,t1,t2,ta,tb,t9⟩:=f44_shape
    refine FnOk.of_marks (fn:=Tryz.f44) (ts:=[.t 2]) Tryz.func44 (by kernel_rfl) hb (by kernel_rfl) (Nat.le_of_ble_eq_true (by kernel_rfl)) (Nat.le_refl 0) ?_
    intro m ok a w hS
    change Sim 41 [] (· < 0) m ok (St.e ⟨[(0,.agg (qk.c t))],[],0⟩) (St.h ⟨[(0,.agg (qk.c t))],[],0⟩) a w at hS
    have W0:W Tryz.prog 41 0 (.reg [] [⟨some 1,none,.box,[.t 0]⟩,⟨some 2,none,.mov,[.c .nils]⟩]) (fun e s=>e = .normal ∧ s = ⟨[(2,.nils),(1,.ptr 0 0),(0,.agg (qk.c t))],[(0,.box (qk.c t))],1⟩) ⟨[(0,.agg (qk.c t))],[],0⟩:=by
      refine W.wk (WK.regx qv ?_)
      refine GX.step (v':=.ptr 0 0) (zj:=[(0,.box (qk.c t))]) (zk:=1) rfl rfl rfl rfl rfl rfl rfl ?_
      refine GX.m rfl ?_
      exact GX.done (WK.nil ⟨rfl,rfl⟩)
    have W1:W Tryz.prog 41 0 (.reg [] [⟨some 3,none,.alloc [.nils],[]⟩]) (fun e s=>e = .normal ∧ s = ⟨[(3,.ptr 1 0),(2,.nils),(1,.ptr 0 0),(0,.agg (qk.c t))],[(0,.box (qk.c t)),(1,.box [.nils])],2⟩) ⟨[(2,.nils),(1,.ptr 0 0),(0,.agg (qk.c t))],[(0,.box (qk.c t))],1⟩:=by
      refine W.wk (WK.regx qv ?_)
      refine GX.step (v':=.ptr 1 0) (zj:=[(0,.box (qk.c t)),(1,.box [.nils])]) (zk:=2) rfl rfl rfl rfl rfl rfl rfl ?_
      exact GX.done (WK.nil ⟨rfl,rfl⟩)
    have W2:W Tryz.prog 41 0 (.reg [] [⟨some 6,none,.load (some 1),[.t 1]⟩,⟨some 7,none,.call 86,[.t 6]⟩]) (fun e s=>∃ s',Conv 0 s s' ∧ e = .normal ∧ s' = ⟨[(3,.ptr 0 0),(7,.fn 116 [] [.rptr (qk.c t)])],[(0,.box [.nils])],1⟩)
        ⟨[(3,.ptr 1 0),(2,.nils),(1,.ptr 0 0),(0,.agg (qk.c t))],[(0,.box (qk.c t)),(1,.box [.nils])],2⟩:=by
      refine W.wk (WK.regx qv ?_)
      refine GX.q (.agg (qk.c t)) ?_
      refine GX.callp (r:=.fn 116 [] [.rptr (qk.c t)]) rfl rfl rfl (f86_ok t) rfl rfl ?_
      refine GX.done (WK.nil ?_)
      exact ⟨_,Conv.keep [1] [] [3,7] rfl rfl (qx rfl rfl (qx rfl rfl qy)) rfl rfl,rfl,rfl⟩
    have key : ∀ (h:List (AId × AObj)) (nx:Nat),I36 R liv liv.length h nx → W Tryz.prog 41 0 (.seq (.reg [] [⟨some 40,none,.load none,[.t 3]⟩,⟨some 2,none,.mov,[.t 40]⟩]) .ret) (RetQ 0 [.t 2] (.ro 10 (R.map qj.c)) [] 0) ⟨[(3,.ptr 0 0),(7,.fn 116 [] [.rptr (qk.c t)])],h,nx⟩:=by
      have fin : ∀ row1:List qj,F44 row1 (liv.drop liv.length) = some R → WK Tryz.prog 41 0 [.seq (.reg [] [⟨some 40,none,.load none,[.t 3]⟩,⟨some 2,none,.mov,[.t 40]⟩]) .ret] (RetQ 0 [.t 2] (.ro 10 (R.map qj.c)) [] 0)
          ⟨[(3,.ptr 0 0),(7,.fn 116 [] [.rptr (qk.c t)])],[(0,.box [.own 1 10 0 row1.length]),(1,.row 10 42 (row1.map qj.c))],2⟩:=by
        intro row1 hrow
        rw [List.drop_length,F44] at hrow
        injection hrow with hrow
        subst hrow
        refine WK.sr qv ?_
        refine GX.q (.own 1 10 0 row1.length) ?_
        refine GX.m rfl ?_
        refine GX.done ?_
        refine WK.ret ?_
        exact RetQ.fr [1] (.inr rfl) rfl rfl (qz (view_rowT rfl rfl) qw) rfl
      rintro h nx (⟨rfl,rfl,hrow⟩ | ⟨row1,hrow,rfl,rfl⟩)
      · refine W.wk (WK.adoptB (id:=0) (j:=0) (sz:=10) (ty:=42) (zj:=[(0,.box [.own 1 10 0 (([]:List qj)).length]),(1,.row 10 42 (([]:List qj).map qj.c))]) rfl rfl (by decide) (by simp) rfl ?_)
        exact fin [] hrow
      · exact W.wk (fin row1 hrow)
    refine wpIn_seq (wpIn_mono (W0 c0 t0 none [] m ok a w (Nat.le_refl _) hS) ?_)
    rintro e a1 w1 ⟨s1,m1,p1⟩
    obtain ⟨rfl,rfl⟩:=p1.q
    refine wpIn_seq (wpIn_mono (W1 c1 t1 none [] m1 ok a1 w1 (Nat.zero_le _) p1.sim) ?_)
    rintro e a2 w2 ⟨s2,m2,p2⟩
    obtain ⟨rfl,rfl⟩:=p2.q
    refine wpIn_seq (wpIn_seq (wpIn_mono (W.post W2 c2 t2 none [] m2 ok a2 w2 (Nat.zero_le _) p2.sim) ?_))
    rintro e a3 w3 ⟨s3,m3,p3⟩
    obtain ⟨rfl,rfl⟩:=p3.q
    refine wpIn_block ?_
    have hst3:Step m w m3 w3:=(p1.step.trans p2.step).trans p3.step
    have hM3:Mon (· < 0) m m3:=fun id h=>absurd h (Nat.not_lt_zero _)
    refine range_wp (n:=41) (st:=⟨[(3,.ptr 0 0),(7,.fn 116 [] [.rptr (qk.c t)])],[(0,.box [.nils])],1⟩) (tg:=7) (p:=8) p3.sim rfl rfl (iter116 h117 t hl0) ta tb (by decide) (I36 R liv) (.inl ⟨rfl,rfl,by simpa using hR⟩) ?_ ?_ ?_
    · rintro k h nx (⟨_,rfl,_⟩ | ⟨_,_,_,rfl⟩)
      · exact Nat.le_refl _
      · show (1:Nat) ≤ 2
        decide
    · intro k h nx x hI hx
      obtain ⟨x52,hx52,rfl⟩ : ∃ x52,liv[k]? = some x52 ∧ x = .agg (qj.c x52):=by
        rw [List.getElem?_map] at hx
        obtain ⟨c,h1,h2⟩:=Option.map_eq_some_iff.1 hx
        exact ⟨c,h1,h2.symm⟩
      have hlt:=(List.getElem?_eq_some_iff.1 hx52).1
      have hd:liv.drop k = x52 :: liv.drop (k + 1):=by
        rw [List.drop_eq_getElem_cons hlt]
        congr 1
        exact (List.getElem?_eq_some_iff.1 hx52).2
      have go : ∀ row1:List qj,F44 row1 (liv.drop k) = some R → WK Tryz.prog 41 1 [r36a,r36b] (fun e s=>∃ s',Conv 1 s s' ∧ e = .normal ∧ I36 R liv (k + 1) s'.heap s'.next) ⟨[(8,.agg (qj.c x52)),(3,.ptr 0 0),(7,.fn 116 [] [.rptr (qk.c t)])],[(0,.box [.own 1 10 0 row1.length]),(1,.row 10 42 (row1.map qj.c))],2⟩ :=
        fun row1 hrow=>round36 h87 (env:=[(0,.rptr (qk.c t))]) row1 hd hrow
      have hWK:WK Tryz.prog 41 1 [r36a,r36b] (fun e s=>∃ s',Conv 1 s s' ∧ e = .normal ∧ I36 R liv (k + 1) s'.heap s'.next) ⟨[(8,.agg (qj.c x52)),(3,.ptr 0 0),(7,.fn 116 [] [.rptr (qk.c t)])],h,nx⟩:=by
        rcases hI with ⟨rfl,rfl,hrow⟩ | ⟨row1,hrow,rfl,rfl⟩
        · refine WK.adoptB (id:=0) (j:=0) (sz:=10) (ty:=42) (zj:=[(0,.box [.own 1 10 0 (([]:List qj)).length]),(1,.row 10 42 (([]:List qj).map qj.c))]) rfl rfl (by decide) (by simp) rfl ?_
          exact go [] hrow
        · exact go row1 hrow
      refine W.mono hWK ?_
      intro e s hq
      cases e with
      | normal=>exact W.post (W.wk hq)
      | exit id=>obtain ⟨_,_,h,_⟩:=hq; cases h
      | goto id=>obtain ⟨_,_,h,_⟩:=hq; cases h
      | ret=>obtain ⟨_,_,h,_⟩:=hq; cases h
      | panic c=>obtain ⟨_,_,h,_⟩:=hq; cases h
      | outgrown=>obtain ⟨_,_,h,_⟩:=hq; cases h
    · intro h nx m4 w4 D hI4 hS4 hst4 hM4 hD hk hm
      rw [List.length_map] at hI4
      show (Code.seq c9 .ret).wpIn Fence.wide 0 Tryz.prog _ _ w4
      have ht:transC Tryz.prog (Code.seq c9 .ret) = some (.seq (.reg [] [⟨some 40,none,.load none,[.t 3]⟩,⟨some 2,none,.mov,[.t 40]⟩]) .ret):=by
        simp only [transC,t9]
      refine wpIn_mono (key h nx hI4 _ ht none [markD D] m4 ok _ w4 (Nat.zero_le _) hS4) ?_
      rintro e a5 w5 ⟨s5,m5,p5⟩
      have hlt:D < w4.heap.size:=(Array.getElem?_eq_some_iff.1 hk).1
      exact ⟨s5,m5,D,⟨p5.q,p5.sim,(hst3.trans hst4).trans p5.step,fun id h=>absurd h (Nat.not_lt_zero _),Nat.zero_le _⟩,by have:=hst3.size; omega,(p5.step.keep D hlt hm).trans hk,p5.step.avoid hlt hm⟩
end Go.Proofs.YtmfggjebbhdejaaGreat.Abs
