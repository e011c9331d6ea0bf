/- Arguments opened: whatever plain data a call is handed, the abstract machine sees it; and a statement's row from its function's word. Generic over any program. -/
import Derived.Test.YtakallenldpkiaaGreatDoorA22
import Derived.ProofKit
import Derived.OpenShut
import Derived.ChangeOld
import Derived.SizedLaws
import Derived.Deep.Slices
set_option linter.unusedVariables false
set_option linter.unusedSimpArgs false
set_option linter.unusedSectionVars false
namespace Go.Proofs.YtakallenldpkiaaGreatDoor.Abs
open Go Go.ChangeShapes Go.WideShapes Go.ChangeAt Go.RowKit
variable [DqC]
theorem Step.toBelow {w w':World} {m':AId → Option Blk} (h:Step (fun _=>none) w m' w'):Below w.heap.size w w' :=
  ⟨h.os,h.tape.tape,h.output,h.size,fun k hk=>h.keep k hk fun id t e=>by cases e⟩
def GsIn (w:World):Prop:=∀ x ∈ Gs,∃ o,w.heap[x.1]? = some o ∧ x.2 o
theorem SimH.empty {w:World} (hG:GsIn w):SimH (· < 0) (fun _=>none) (fun _=>True) (fun i=>([]:List (AId × AObj)).lookup i) w :=
  ⟨fun id o h=>by simp at h,fun id B h=>by simp at h,fun id id' b t t' h=>by simp at h,fun id b t h=>by simp at h,fun id b t h=>by simp at h,fun b h=>trivial,fun x hx=>⟨fun id t h=>(by cases h),hG x hx⟩⟩
theorem FnOk.run {P:Program} {f:FuncId} {ps:List PVal} {b:Bool} (h:FnOk P f ps [] 0 (.bool b) [] 0) {w:World} (hG:GsIn w) {vs:List Value} (hr:Reps w (okn (fun _=>True) (fun _=>none)) (· < 0) (fun _=>none) false ps vs) :
    Calls P f vs.toArray w fun e w'=>e = .returned (.bool b) ∧ Below w.heap.size w w':=by
  refine Calls.mono (h.2.2 (fun _=>none) (fun _=>True) w vs (SimH.empty hG) hr) ?_
  rintro e w' ⟨v,m',rfl,_,hv,hst,_⟩
  rw [rep_bool hv]
  exact ⟨rfl,hst.toBelow⟩
def InK (k:IntKind) (n:Int):Prop:=k.min ≤ n ∧ n ≤ k.max
theorem InK.of {k:IntKind} {n:Int} (h:(Lit.int k n).wf = true):InK k n:=by
  simpa only [Lit.wf,Bool.and_eq_true,decide_eq_true_eq,InK] using h
def TypedL (T:TypeId → List PVal → Prop):List Field → List PVal → Prop
  | [],cs=>cs = []
  | f :: r,cs=>∃ a b,cs = a ++ b ∧ T f.type a ∧ TypedL T r b
def Typed (P:Program):Nat → TypeId → List PVal → Prop
  | 0,_,_=>False
  | n + 1,t,cs=>match P.underlying t with
    | some (.int k)=>∃ i,cs = [.int k i] ∧ InK k i
    | some .bool=>∃ b,cs = [.bool b]
    | some .string=>∃ s:ByteArray,cs = [.str s] ∧ s.size ≤ maxLen
    | some (.slice e)=>∃ es,cs = [.ro (P.cellsOf e) es] ∧ ∀ x ∈ es,Typed P n e x
    | some (.struct fs)=>TypedL (Typed P n) fs.toList cs
    | _=>False
def layB (P:Program):List Field → Nat → Nat → Bool
  | [],off,tot=>off == tot
  | f :: r,off,tot=>f.offset == off && layB P r (off + P.cellsOf f.type) tot
def plainT (P:Program):Nat → TypeId → Bool
  | 0,_=>false
  | n + 1,t=>match P.underlying t with
    | some (.int _)=>true
    | some .bool=>true
    | some .string=>true
    | some (.slice e)=>plainT P n e
    | some (.struct fs)=>layB P fs.toList 0 (P.cellsOf t) && fs.toList.all fun f=>plainT P n f.type
    | _=>false
section
variable {H:Type} {enc:TypeId × Value → H} {P:Program} {w:World} {base:Nat} {spare:Nat → Bool} {held:Bool}
theorem trod_int {t:TypeId} {k:IntKind} {fuel:Nat} {cs:List Value} {x:DataW H × List MemPlace} (ht:P.underlying t = some (.int k)) (h:DataW.trod enc P w base spare held fuel t cs = some x) : ∃ n,cs = [.int k n] ∧ InK k n:=by
  cases fuel with
  | zero=>simp [DataW.trod] at h
  | succ n =>
    unfold DataW.trod at h
    rw [ht] at h
    split at h <;> try (cases h; done)
    all_goals first
      | (rename_i e _; cases e; done)
      | (rename_i k1 k2 n2 e
         injection e with e
         injection e with e
         subst e
         split at h
         · rename_i hk
           obtain ⟨rfl,hwf⟩:=hk
           simp only [Lit.wf,Bool.and_eq_true,decide_eq_true_eq] at hwf
           exact ⟨_,rfl,hwf⟩
         · cases h)
      | skip
    all_goals simp_all
theorem trod_bool {t:TypeId} {fuel:Nat} {cs:List Value} {x:DataW H × List MemPlace} (ht:P.underlying t = some .bool) (h:DataW.trod enc P w base spare held fuel t cs = some x) : ∃ b,cs = [.bool b]:=by
  cases fuel with
  | zero=>simp [DataW.trod] at h
  | succ n =>
    unfold DataW.trod at h
    rw [ht] at h
    split at h <;> try (cases h; done)
    all_goals first
      | exact ⟨_,rfl⟩
      | (rename_i e _; cases e; done)
      | skip
    all_goals simp_all
theorem trod_string {t:TypeId} {fuel:Nat} {cs:List Value} {x:DataW H × List MemPlace} (ht:P.underlying t = some .string) (h:DataW.trod enc P w base spare held fuel t cs = some x) : ∃ s:ByteArray,cs = [.string s] ∧ s.size ≤ maxLen:=by
  cases fuel with
  | zero=>simp [DataW.trod] at h
  | succ n =>
    unfold DataW.trod at h
    rw [ht] at h
    split at h <;> try (cases h; done)
    all_goals first
      | (split at h
         · rename_i hs; exact ⟨_,rfl,hs⟩
         · cases h)
      | (rename_i e _; cases e; done)
      | skip
    all_goals simp_all
abbrev OKB:Nat → Prop:=okn (fun _=>True) (fun _=>none)
theorem lay_open {n fuel:Nat} {cs:List Value} (IH : ∀ (t:TypeId) (cs:List Value) (x:DataW H × List MemPlace),plainT P n t = true → DataW.trod enc P w base spare held fuel t cs = some x → ∃ ps,Typed P n t ps ∧ Reps w OKB (· < 0) (fun _=>none) true ps cs ∧ ∀ v ∈ cs,v.oneCell' = true) :
    ∀ (fs:List Field) (off:Nat),layB P fs off cs.length = true → (∀ f ∈ fs,plainT P n f.type = true) → (∀ f ∈ fs,∃ y,DataW.trod enc P w base spare held fuel f.type ((cs.drop f.offset).take (P.cellsOf f.type)) = some y) →
      ∃ ps,TypedL (Typed P n) fs ps ∧ Reps w OKB (· < 0) (fun _=>none) true ps (cs.drop off) ∧ ∀ v ∈ cs.drop off,v.oneCell' = true
  | [],off,hl,_,_=>by
    simp only [layB,beq_iff_eq] at hl
    subst hl
    rw [List.drop_length]
    exact ⟨[],rfl,Reps.nil ..,fun v hv=>by cases hv⟩
  | f :: r,off,hl,hp,ht=>by
    simp only [layB,Bool.and_eq_true,beq_iff_eq] at hl
    obtain ⟨ho,hl⟩:=hl
    obtain ⟨y,hy⟩:=ht f List.mem_cons_self
    obtain ⟨a,h1,h2,h3⟩:=IH _ _ _ (hp f List.mem_cons_self) hy
    obtain ⟨b,k1,k2,k3⟩:=lay_open IH r _ hl (fun g hg=>hp g (List.mem_cons_of_mem _ hg)) (fun g hg=>ht g (List.mem_cons_of_mem _ hg))
    have hd:cs.drop off = (cs.drop f.offset).take (P.cellsOf f.type) ++ cs.drop (off + P.cellsOf f.type):=by
      rw [ho,← List.drop_drop,List.take_append_drop]
    refine ⟨a ++ b,⟨a,b,rfl,h1,k1⟩,?_,?_⟩
    · rw [hd]; exact h2.append k2
    · rw [hd]
      intro v hv
      rcases List.mem_append.1 hv with hv | hv
      · exact h3 v hv
      · exact k3 v hv
theorem open_any : ∀ (n fuel:Nat) (t:TypeId) (cs:List Value) (x:DataW H × List MemPlace),plainT P n t = true → DataW.trod enc P w base spare held fuel t cs = some x →
    ∃ ps,Typed P n t ps ∧ Reps w OKB (· < 0) (fun _=>none) true ps cs ∧ ∀ v ∈ cs,v.oneCell' = true
  | 0,_,_,_,_,hp,_=>by simp [plainT] at hp
  | n + 1,fuel,t,cs,x,hp,h=>by
    simp only [plainT] at hp
    split at hp
    · rename_i k ht
      obtain ⟨i,rfl,hi⟩:=trod_int ht h
      exact ⟨[.int k i],by simp only [Typed,ht]; exact ⟨i,rfl,hi⟩,Reps.cons .int (Reps.nil ..),by simp [Value.oneCell']⟩
    · rename_i ht
      obtain ⟨b,rfl⟩:=trod_bool ht h
      exact ⟨[.bool b],by simp only [Typed,ht]; exact ⟨b,rfl⟩,Reps.cons .bool (Reps.nil ..),by simp [Value.oneCell']⟩
    · rename_i ht
      obtain ⟨s,rfl,hs⟩:=trod_string ht h
      exact ⟨[.str s],by simp only [Typed,ht]; exact ⟨s,rfl,hs⟩,Reps.cons .str (Reps.nil ..),by simp [Value.oneCell']⟩
    · rename_i e ht
      rcases Deep.open_slice ht h with ⟨rfl,_⟩ | ⟨a,len,cap,m,n',D,Pl,rfl,hb,hl,hm,hmm,_,hx⟩
      · exact ⟨[.ro (P.cellsOf e) []],by simp only [Typed,ht]; exact ⟨[],rfl,fun x hx=>by cases hx⟩,
          Reps.cons (.ro (ad:=⟨0,0,none⟩) (fun _ _=>default) rfl (Nat.le_refl _) (Nat.zero_le _) (fun e he=>by cases he) (fun h=>by cases h) (fun i j e p he=>by simp at he) (fun i j e p he=>by simp at he)) (Reps.nil ..),by simp [Value.oneCell']⟩
      · have hlm:len ≤ m:=by rw [hmm]; split <;> omega
        have hc : ∀ i,i < len → ∃ q:List PVal × List Value,Typed P n e q.1 ∧ Reps w OKB (· < 0) (fun _=>none) true q.1 q.2 ∧ (∀ v ∈ q.2,v.oneCell' = true) ∧ q.2.length = P.cellsOf e ∧ ∀ j,j < P.cellsOf e → w.cell? ((a.add (i * P.cellsOf e)).add j) = q.2[j]?:=by
          intro i hi
          obtain ⟨cs',h1,h2⟩:=hx i (by omega)
          obtain ⟨_,h4,h3⟩:=World.cells?_some h1
          obtain ⟨ps,g1,g2,g3⟩:=open_any n n' e cs' _ hp h2
          exact ⟨(ps,cs'),g1,g2,g3,h4,fun j hj=>h3 j hj⟩
        obtain ⟨C,hC⟩:=Deep.choose_lt (α:=List PVal × List Value) hc
        have hget : ∀ (i j:Nat) (e':List PVal) (p:PVal),((List.range len).map fun i=>(C i).1)[i]? = some e' → e'[j]? = some p → i < len ∧ e' = (C i).1 ∧ j < P.cellsOf e ∧ ∃ v,(C i).2[j]? = some v:=by
          intro i j e' p he hp
          have hi:i < len:=by have:=(List.getElem?_eq_some_iff.1 he).1; simpa using this
          rw [List.getElem?_map,List.getElem?_range hi] at he
          simp only [Option.map_some,Option.some.injEq] at he
          subst he
          obtain ⟨c1,c2,c3,c4,c5⟩:=hC i hi
          have hj:=(List.getElem?_eq_some_iff.1 hp).1
          rw [c2.1] at hj
          exact ⟨hi,rfl,by omega,_,List.getElem?_eq_getElem hj⟩
        refine ⟨[.ro (P.cellsOf e) ((List.range len).map fun i=>(C i).1)],?_,Reps.cons (.ro (ad:=a) (fun i j=>((C i).2[j]?).getD default) (by simp) hl hm (fun e' he=>?_) (fun _=>rfl) (fun i j e' p he hp'=>?_) (fun i j e' p he hp'=>?_)) (Reps.nil ..),by simp [Value.oneCell']⟩
        · simp only [Typed,ht]
          refine ⟨_,rfl,fun x hx'=>?_⟩
          obtain ⟨i,hi,rfl⟩:=List.mem_map.1 hx'
          exact (hC i (List.mem_range.1 hi)).1
        · obtain ⟨i,hi,rfl⟩:=List.mem_map.1 he
          obtain ⟨c1,c2,c3,c4,c5⟩:=hC i (List.mem_range.1 hi)
          rw [c2.1,c4]
        · obtain ⟨hi,rfl,hj,v,hv⟩:=hget i j e' p he hp'
          obtain ⟨c1,c2,c3,c4,c5⟩:=hC i hi
          rw [hv]
          refine ⟨⟨trivial,fun id t e=>by cases e⟩,?_,c3 v (List.mem_of_getElem? hv)⟩
          rw [← add_add',c5 j hj,hv]
          rfl
        · obtain ⟨hi,rfl,hj,v,hv⟩:=hget i j e' p he hp'
          obtain ⟨c1,c2,c3,c4,c5⟩:=hC i hi
          rw [hv]
          exact c2.2 j p v hp' hv
    · rename_i fs ht
      simp only [Bool.and_eq_true,List.all_eq_true] at hp
      obtain ⟨xs,n',hfuel,_,hlen,hxl,hf⟩:=DataW.trod_struct ht h
      obtain ⟨ps,h1,h2,h3⟩:=lay_open (cs:=cs) (n:=n) (fuel:=n') (fun t cs x hp h=>open_any n n' t cs x hp h) fs.toList 0 (by rw [hlen]; exact hp.1) hp.2 (fun f hf'=>by
        obtain ⟨i,hi,rfl⟩:=List.mem_iff_getElem.1 hf'
        have:=hf i fs[i] (by simp)
        have hx:i < xs.length:=by rw [hxl]; simpa using hi
        exact ⟨xs[i],by simpa [List.getElem?_eq_getElem hx] using this⟩)
      rw [List.drop_zero] at h2 h3
      exact ⟨ps,by simp only [Typed,ht]; exact h1,h2,h3⟩
    · cases hp
theorem open_arg1 {n:Nat} {t:TypeId} {v:Value} {d:DataW H} {p:List MemPlace} (hp:plainT P n t = true) (h:DataW.Trod enc P w base spare held t v d p) (hv:v.cells = #[v]) : ∃ q,Typed P n t [q] ∧ Rep w OKB (· < 0) (fun _=>none) false q v:=by
  obtain ⟨fuel,hf⟩:=h
  rw [hv] at hf
  obtain ⟨ps,h1,h2,h3⟩:=open_any n fuel t _ _ hp hf
  have hl:=h2.1
  match ps,hl with
  | [q],_=>exact ⟨q,h1,(h2.head).opened⟩
end
theorem typed_int {P:Program} {n:Nat} {t:TypeId} {k:IntKind} {cs:List PVal} (ht:P.underlying t = some (.int k)) (h:Typed P (n + 1) t cs) : ∃ i,cs = [.int k i] ∧ InK k i:=by simpa only [Typed,ht] using h
theorem typed_bool {P:Program} {n:Nat} {t:TypeId} {cs:List PVal} (ht:P.underlying t = some .bool) (h:Typed P (n + 1) t cs) : ∃ b,cs = [.bool b]:=by simpa only [Typed,ht] using h
theorem typed_slice {P:Program} {n:Nat} {t e:TypeId} {cs:List PVal} {sz:Nat} (ht:P.underlying t = some (.slice e)) (hs:P.cellsOf e = sz) (h:Typed P (n + 1) t cs) : ∃ es,cs = [.ro sz es] ∧ ∀ x ∈ es,Typed P n e x:=by
  subst hs
  simpa only [Typed,ht] using h
theorem typed_struct {P:Program} {n:Nat} {t:TypeId} {fs:Array Field} {cs:List PVal} (ht:P.underlying t = some (.struct fs)) (h:Typed P (n + 1) t cs):TypedL (Typed P n) fs.toList cs:=by simpa only [Typed,ht] using h
theorem list_of {α:Type} {c:α → List PVal} {ok:α → Prop} : ∀ {es:List (List PVal)},(∀ e ∈ es,∃ x:α,e = c x ∧ ok x) → ∃ l:List α,es = l.map c ∧ ∀ x ∈ l,ok x
  | [],_=>⟨[],rfl,fun x hx=>by cases hx⟩
  | e :: es,h=>by
    obtain ⟨x,hx,ho⟩:=h e List.mem_cons_self
    obtain ⟨l,hl,hk⟩:=list_of fun e' he'=>h e' (List.mem_cons_of_mem _ he')
    refine ⟨x :: l,by rw [hx,hl]; rfl,fun y hy=>?_⟩
    rcases List.mem_cons.1 hy with h' | h'
    · subst h'; exact ho
    · exact hk y h'
end Go.Proofs.YtakallenldpkiaaGreatDoor.Abs
