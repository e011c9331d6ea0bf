/- A part of the proof: G0, A1, A2. -/
import Derived.WalkKit
import Derived.Lib.ItoaNum
import Derived.Below
import Derived.Orders
import Derived.Deep.Draws
import Derived.Maps.AppendAt
import Derived.OwnWalk
import Derived.ChangeKeysEq
import Derived.WalkSpells
import Derived.Lib.AppendZerosOnto
import Derived.MapKept
import Derived.Laws.BytesArg
set_option linter.unusedVariables false
set_option linter.unusedSimpArgs false
namespace Go.Proofs.YtmfggjebbhdejaaGreat.Abs
open Go
def Gs:List (Nat × (Obj → Prop)):=[]
abbrev AId:=Nat
inductive PVal where
 | undef
 | hole
 | bool (b:Bool)
 | int (k:IntKind) (n:Int)
 | str (s:ByteArray)
 | nilp | nils | nilf | nili | nilm
 | yld (l:Nat)
 | anyb
 | agg (cs:List PVal)
 | tup (cs:List PVal)
 | ro (sz:Nat) (es:List (List PVal))
 | rptr (cs:List PVal)
 | ptr (id off:Nat)
 | eptr (id sz i off:Nat)
 | own (id sz lo n:Nat)
 | mapr (id:Nat)
 | fn (f:FuncId) (first caps:List PVal)
 | iface (t:TypeId) (v:PVal)
 deriving Inhabited
inductive AObj where
 | box (cs:List PVal)
 | row (sz:Nat) (ty:TypeId) (es:List (List PVal))
 | mp (kvs:List (PVal × PVal))
 | full (sz:Nat) (ty:TypeId) (es:List (List PVal))
 deriving Inhabited
inductive Blk where
 | nil
 | at (b:Nat) (tot:Nat)
def OwnVal (B:Blk) (sz lo n:Nat) (v:Value):Prop :=
 match B with
 | .nil=>(∃ A,v = .slice A 0 0) ∧ lo = 0 ∧ n = 0
 | .at b tot=>∃ a cap,v = .slice (some a) n cap ∧ a.block = b ∧ a.spot = none ∧ (a.off = lo * sz ∨ (cap = 0 ∧ 0 < lo)) ∧ n ≤ cap ∧ lo + cap = tot ∧ tot ≤ maxLen
inductive Rep (w:World) (ok:Nat → Prop) (D:AId → Prop) (m:AId → Option Blk):Bool → PVal → Value → Prop where
 | undef {c:Bool} {v:Value}:Rep w ok D m c .undef v
 | hole {c:Bool}:Rep w ok D m c .hole (.tuple #[])
 | bool {c b:Bool}:Rep w ok D m c (.bool b) (.bool b)
 | int {c:Bool} {k:IntKind} {n:Int}:Rep w ok D m c (.int k n) (.int k n)
 | str {c:Bool} {s:ByteArray}:Rep w ok D m c (.str s) (.string s)
 | nilp {c:Bool}:Rep w ok D m c .nilp (.pointer none)
 | nils {c:Bool}:Rep w ok D m c .nils (.slice none 0 0)
 | nilf {c:Bool}:Rep w ok D m c .nilf .nilFunc
 | yld {c:Bool} {l:Nat}:Rep w ok D m c (.yld l) (.func (.yield l) #[] #[])
 | nili {c:Bool}:Rep w ok D m c .nili .nilIface
 | nilm {c:Bool}:Rep w ok D m c .nilm (.map none)
 | anyb {c b:Bool}:Rep w ok D m c .anyb (.bool b)
 | agg {c:Bool} {cs:List PVal} {vs:List Value} (hl:cs.length = vs.length) (h1 : ∀ v ∈ vs,v.oneCell' = true) (h : ∀ (i:Nat) (p:PVal) (v:Value),cs[i]? = some p → vs[i]? = some v → Rep w ok D m c p v):Rep w ok D m c (.agg cs) (.agg vs.toArray)
 | tup {c:Bool} {cs:List PVal} {vs:List Value} (hl:cs.length = vs.length) (h : ∀ (i:Nat) (p:PVal) (v:Value),cs[i]? = some p → vs[i]? = some v → Rep w ok D m c p v):Rep w ok D m c (.tup cs) (.tuple vs.toArray)
 | ro {c:Bool} {sz:Nat} {es:List (List PVal)} {A:Option Addr} {n cap:Nat} {ad:Addr} (vs:Nat → Nat → Value) (hn:es.length = n) (hc:n ≤ cap) (hm:cap ≤ maxLen) (hs : ∀ e ∈ es,e.length = sz) (hA:0 < n → A = some ad)
   (hcell : ∀ (i j:Nat) (e:List PVal) (p:PVal),es[i]? = some e → e[j]? = some p → ok ad.block ∧ w.cell? (ad.add (i * sz + j)) = some (vs i j) ∧ (vs i j).oneCell' = true)
   (h : ∀ (i j:Nat) (e:List PVal) (p:PVal),es[i]? = some e → e[j]? = some p → Rep w ok D m true p (vs i j)):Rep w ok D m c (.ro sz es) (.slice A n cap)
 | rptr {c:Bool} {cs:List PVal} {ad:Addr} (vs:Nat → Value) (hcell : ∀ (j:Nat) (p:PVal),cs[j]? = some p → ok ad.block ∧ w.cell? (ad.add j) = some (vs j) ∧ (vs j).oneCell' = true)
   (h : ∀ (j:Nat) (p:PVal),cs[j]? = some p → Rep w ok D m true p (vs j)):Rep w ok D m c (.rptr cs) (.pointer (some ad))
 | ptr {id off:Nat} {v:Value} (hD:D id) (h1:v.oneCell' = true) (h : ∀ (b t:Nat),m id = some (.at b t) → v = .pointer (some ⟨b,off,none⟩)):Rep w ok D m false (.ptr id off) v
 | eptr {id sz i off:Nat} {v:Value} (hD:D id) (h1:v.oneCell' = true) (h : ∀ (b t:Nat),m id = some (.at b t) → v = .pointer (some ⟨b,i * sz + off,none⟩)):Rep w ok D m false (.eptr id sz i off) v
 | own {id sz lo n:Nat} {v:Value} (hD:D id) (h1:v.oneCell' = true) (h : ∀ (B:Blk),m id = some B → OwnVal B sz lo n v):Rep w ok D m false (.own id sz lo n) v
 | mapr {id:Nat} {v:Value} (hD:D id) (h1:v.oneCell' = true) (h : ∀ (b t:Nat),m id = some (.at b t) → v = .map (some b)):Rep w ok D m false (.mapr id) v
 | fn {c:Bool} {f:FuncId} {first caps:List PVal} {fv cv:List Value} (hl1:first.length = fv.length) (hl2:caps.length = cv.length) (h1 : ∀ (i:Nat) (p:PVal) (v:Value),first[i]? = some p → fv[i]? = some v → Rep w ok D m c p v)
   (h2 : ∀ (i:Nat) (p:PVal) (v:Value),caps[i]? = some p → cv[i]? = some v → Rep w ok D m c p v):Rep w ok D m c (.fn f first caps) (.func (.func f) fv.toArray cv.toArray)
 | iface {c:Bool} {t:TypeId} {p:PVal} {v:Value} (h:Rep w ok D m c p v):Rep w ok D m c (.iface t p) (.iface t v)
theorem fu {w:World} {a:Addr} {v:Value} (h:w.cell? a = some v):a.block < w.heap.size:=World.block_lt_of_cell? w a h
theorem bp (a:Addr) (n:Nat):(a.add n).block = a.block:=by unfold Addr.add; split <;> rfl
theorem Rep.mono {w w':World} {ok ok':Nat → Prop} {D D':AId → Prop} {m m':AId → Option Blk} {c c':Bool} {p:PVal} {v:Value} (h:Rep w ok D m c p v)
  (hw : ∀ a u,ok a.block → w.cell? a = some u → w'.cell? a = some u) (hok : ∀ b,ok b → b < w.heap.size → ok' b)
  (hc:c' = true → c = true) (hD:c' = false → c = false → ∀ id,D id → D' id) (hm:c' = false → c = false → ∀ id,D id → m' id = m id ∨ m' id = none):Rep w' ok' D' m' c' p v:=by
 induction h generalizing c' with
 | undef=>exact .undef
 | hole=>exact .hole
 | bool=>exact .bool
 | int=>exact .int
 | str=>exact .str
 | nilp=>exact .nilp
 | nils=>exact .nils
 | nilf=>exact .nilf
 | yld=>exact .yld
 | nili=>exact .nili
 | nilm=>exact .nilm
 | anyb=>exact .anyb
 | agg hl h1 _ ih=>exact .agg hl h1 (fun i p v hp hv=>ih i p v hp hv hc hD hm)
 | tup hl _ ih=>exact .tup hl (fun i p v hp hv=>ih i p v hp hv hc hD hm)
 | ro vs hn hcp hml hs hA hcell _ ih =>
  refine .ro vs hn hcp hml hs hA (fun i j e p he hp=>?_) (fun i j e p he hp=>ih i j e p he hp (fun _=>rfl) (fun h=>by cases h) (fun h=>by cases h))
  obtain ⟨h1,h2,h3⟩:=hcell i j e p he hp
  refine ⟨hok _ h1 ?_,hw _ _ ?_ h2,h3⟩
  ·have:=fu h2; rwa [bp] at this
  ·rwa [bp]
 | rptr vs hcell _ ih =>
  refine .rptr vs (fun j p hp=>?_) (fun j p hp=>ih j p hp (fun _=>rfl) (fun h=>by cases h) (fun h=>by cases h))
  obtain ⟨h1,h2,h3⟩:=hcell j p hp
  refine ⟨hok _ h1 ?_,hw _ _ ?_ h2,h3⟩
  ·have:=fu h2; rwa [bp] at this
  ·rwa [bp]
 | @ptr id off v hd h1 h =>
  cases c' with
  | true=>cases hc rfl
  | false=>exact .ptr (hD rfl rfl _ hd) h1 (fun b t e=>by rcases hm rfl rfl _ hd with h' | h' <;> rw [h'] at e; exact h b t e; cases e)
 | @eptr id sz i off v hd h1 h =>
  cases c' with
  | true=>cases hc rfl
  | false=>exact .eptr (hD rfl rfl _ hd) h1 (fun b t e=>by rcases hm rfl rfl _ hd with h' | h' <;> rw [h'] at e; exact h b t e; cases e)
 | @own id sz lo n v hd h1 h =>
  cases c' with
  | true=>cases hc rfl
  | false=>exact .own (hD rfl rfl _ hd) h1 (fun b e=>by rcases hm rfl rfl _ hd with h' | h' <;> rw [h'] at e; exact h b e; cases e)
 | @mapr id v hd h1 h =>
  cases c' with
  | true=>cases hc rfl
  | false=>exact .mapr (hD rfl rfl _ hd) h1 (fun b t e=>by rcases hm rfl rfl _ hd with h' | h' <;> rw [h'] at e; exact h b t e; cases e)
 | fn hl1 hl2 _ _ ih1 ih2=>exact .fn hl1 hl2 (fun i p v hp hv=>ih1 i p v hp hv hc hD hm) (fun i p v hp hv=>ih2 i p v hp hv hc hD hm)
 | iface _ ih=>exact .iface (ih hc hD hm)
def PVal.one:PVal → Bool
 | .undef | .hole | .agg _ | .tup _=>false
 | _=>true
theorem Rep.one {w:World} {ok:Nat → Prop} {D:AId → Prop} {m:AId → Option Blk} {c:Bool} {p:PVal} {v:Value} (h:Rep w ok D m c p v) (hp:p.one = true):v.oneCell' = true:=by
 cases h <;> simp_all [PVal.one,Value.oneCell']
def PVal.closed:PVal → Bool
 | .agg cs=>go cs
 | .tup cs=>go cs
 | .fn _ a b=>go a && go b
 | .iface _ v=>v.closed
 | .ptr .. | .eptr .. | .own .. | .mapr ..=>false
 | _=>true
where
 go:List PVal → Bool
  | []=>true
  | p :: r=>p.closed && go r
theorem bH {l:List PVal} (h:PVal.closed.go l = true) : ∀ (i:Nat) (p:PVal),l[i]? = some p → p.closed = true:=by
 induction l with
 | nil=>intro i p hp; simp at hp
 | cons q r ih =>
  simp only [PVal.closed.go,Bool.and_eq_true] at h
  intro i p hp
  cases i with
  | zero=>simp at hp; subst hp; exact h.1
  | succ i=>simp at hp; exact ih h.2 i p hp
theorem Rep.close {w:World} {ok:Nat → Prop} {D:AId → Prop} {m:AId → Option Blk} {c:Bool} {p:PVal} {v:Value} (h:Rep w ok D m c p v) (hp:p.closed = true):Rep w ok D m true p v:=by
 induction h with
 | undef=>exact .undef
 | hole=>exact .hole
 | bool=>exact .bool
 | int=>exact .int
 | str=>exact .str
 | nilp=>exact .nilp
 | nils=>exact .nils
 | nilf=>exact .nilf
 | yld=>exact .yld
 | nili=>exact .nili
 | nilm=>exact .nilm
 | anyb=>exact .anyb
 | agg hl h1 _ ih=>exact .agg hl h1 (fun i p v hp' hv=>ih i p v hp' hv (bH (by simpa [PVal.closed] using hp) i p hp'))
 | tup hl _ ih=>exact .tup hl (fun i p v hp' hv=>ih i p v hp' hv (bH (by simpa [PVal.closed] using hp) i p hp'))
 | ro vs hn hcp hml hs hA hcell h _=>exact .ro vs hn hcp hml hs hA hcell h
 | rptr vs hcell h _=>exact .rptr vs hcell h
 | ptr hd h1 h=>simp [PVal.closed] at hp
 | eptr hd h1 h=>simp [PVal.closed] at hp
 | own hd h1 h=>simp [PVal.closed] at hp
 | mapr hd h1 h=>simp [PVal.closed] at hp
 | fn hl1 hl2 _ _ ih1 ih2 =>
  simp only [PVal.closed,Bool.and_eq_true] at hp
  exact .fn hl1 hl2 (fun i p v hp' hv=>ih1 i p v hp' hv (bH hp.1 i p hp')) (fun i p v hp' hv=>ih2 i p v hp' hv (bH hp.2 i p hp'))
 | iface _ ih=>exact .iface (ih (by simpa [PVal.closed] using hp))
theorem Rep.opened {w:World} {ok:Nat → Prop} {D D':AId → Prop} {m m':AId → Option Blk} {c:Bool} {p:PVal} {v:Value} (h:Rep w ok D m true p v):Rep w ok D' m' c p v :=
 h.mono (fun _ _ _ hc=>hc) (fun _ hb _=>hb) (fun _=>rfl) (fun _ h=>by cases h) (fun _ h=>by cases h)
def okn (ok:Nat → Prop) (m:AId → Option Blk) (b:Nat):Prop:=ok b ∧ ∀ (id:AId) (t:Nat),m id ≠ some (.at b t)
def RepObj (w:World) (ok:Nat → Prop) (D:AId → Prop) (m:AId → Option Blk):AObj → Blk → Prop
 | .box cs,.at b _=>∃ (vs:Array Value) (ty:TypeId),w.heap[b]? = some (.cells vs ty (0,0)) ∧ vs.size = cs.length ∧
   ∀ (i:Nat) (p:PVal),cs[i]? = some p → ∃ v,vs[i]? = some v ∧ v.oneCell' = true ∧ Rep w (okn ok m) D m false p v
 | .row sz ty es,.at b tot=>∃ (vs:Array Value),w.heap[b]? = some (.cells vs ty (0,0)) ∧ vs.size = tot * sz ∧ es.length ≤ tot ∧ tot ≤ maxLen ∧ 0 < sz ∧ (∀ e ∈ es,e.length = sz) ∧
   ∀ (i j:Nat) (e:List PVal) (p:PVal),es[i]? = some e → e[j]? = some p → ∃ v,vs[i * sz + j]? = some v ∧ v.oneCell' = true ∧ Rep w (okn ok m) D m true p v
 | .row sz _ es,.nil=>es = [] ∧ 0 < sz
 | .full sz ty es,.at b tot=>∃ (vs:Array Value),w.heap[b]? = some (.cells vs ty (0,0)) ∧ vs.size = tot * sz ∧ es.length = tot ∧ tot ≤ maxLen ∧ 0 < sz ∧ (∀ e ∈ es,e.length = sz) ∧
   ∀ (i j:Nat) (e:List PVal) (p:PVal),es[i]? = some e → e[j]? = some p → p = .undef ∨ ∃ v,vs[i * sz + j]? = some v ∧ v.oneCell' = true ∧ Rep w (okn ok m) D m true p v
 | .full sz _ es,.nil=>es = [] ∧ 0 < sz
 | .mp kvs,.at b _=>∃ (ents:Array MapEntry) (clock:Nat),w.heap[b]? = some (.map ents clock) ∧ ents.size = kvs.length ∧
   ∀ (i:Nat) (k x:PVal),kvs[i]? = some (k,x) → ∃ e,ents[i]? = some e ∧ Rep w (okn ok m) D m true k e.key ∧ Rep w (okn ok m) D m true x e.val
 | _,_=>False
structure SimH (D:AId → Prop) (m:AId → Option Blk) (ok:Nat → Prop) (heap:AId → Option AObj) (w:World):Prop where
 obj : ∀ (id:AId) (o:AObj),heap id = some o → ∃ B,m id = some B ∧ RepObj w ok D m o B
 dom : ∀ (id:AId) (B:Blk),m id = some B → D id
 inj : ∀ (id id':AId) (b t t':Nat),m id = some (.at b t) → m id' = some (.at b t') → id = id'
 lt : ∀ (id:AId) (b t:Nat),m id = some (.at b t) → b < w.heap.size
 okm : ∀ (id:AId) (b t:Nat),m id = some (.at b t) → ok b
 fresh : ∀ b,w.heap.size ≤ b → ok b
 glob : ∀ x ∈ Gs,(∀ (id:AId) (t:Nat),m id ≠ some (.at x.1 t)) ∧ ∃ o,w.heap[x.1]? = some o ∧ x.2 o
structure Step (m:AId → Option Blk) (w:World) (m':AId → Option Blk) (w':World):Prop where
 os:w'.os = w.os
 tape:w'.tape = w.tape
 output:w'.output = w.output
 size:w.heap.size ≤ w'.heap.size
 keep : ∀ b,b < w.heap.size → (∀ (id:AId) (t:Nat),m id ≠ some (.at b t)) → w'.heap[b]? = w.heap[b]?
 own : ∀ (id:AId) (b t:Nat),m' id = some (.at b t) → (∃ id0 t0,m id0 = some (.at b t0)) ∨ w.heap.size ≤ b
theorem Step.refl (m:AId → Option Blk) (w:World):Step m w m w:=⟨rfl,rfl,rfl,Nat.le_refl _,fun _ _ _=>rfl,fun id _ t h=>.inl ⟨id,t,h⟩⟩
theorem Step.trans {m m1 m2:AId → Option Blk} {w w1 w2:World} (h:Step m w m1 w1) (k:Step m1 w1 m2 w2):Step m w m2 w2:=by
 refine ⟨k.os.trans h.os,k.tape.trans h.tape,k.output.trans h.output,Nat.le_trans h.size k.size,fun b hb hn=>?_,fun id b t hm=>?_⟩
 ·refine (k.keep b (Nat.lt_of_lt_of_le hb h.size) fun id t hm=>?_).trans (h.keep b hb hn)
  rcases h.own id b t hm with ⟨i0,t0,h0⟩ | hge
  ·exact hn i0 t0 h0
  ·omega
 ·rcases k.own id b t hm with ⟨i0,t0,h0⟩ | hge
  ·exact h.own i0 b t0 h0
  ·exact .inr (Nat.le_trans h.size hge)
theorem ej {m:AId → Option Blk} {w:World} (n:Nat):Step m w m (w.drewN n):=⟨rfl,rfl,rfl,Nat.le_refl _,fun _ _ _=>rfl,fun id _ t h=>.inl ⟨id,t,h⟩⟩
theorem dw {w w':World} {a:Addr} (h:w'.heap[a.block]? = w.heap[a.block]?):w'.cell? a = w.cell? a:=by simp [World.cell?,h]
theorem Rep.step {w w':World} {ok:Nat → Prop} {D D':AId → Prop} {m m':AId → Option Blk} {c:Bool} {p:PVal} {v:Value} (h:Rep w (okn ok m) D m c p v) (hs:Step m w m' w')
  (hD : ∀ id,D id → D' id) (hm : ∀ id,D id → m' id = m id ∨ m' id = none):Rep w' (okn ok m') D' m' c p v:=by
 refine h.mono (fun a u ho hc=>?_) (fun b ho hb=>⟨ho.1,fun id t e=>?_⟩) id (fun _ _=>hD) (fun _ _=>hm)
 ·rw [dw (hs.keep _ (fu hc) fun id t=>ho.2 id t)]; exact hc
 ·rcases hs.own id b t e with ⟨i0,t0,h0⟩ | hge
  ·exact ho.2 i0 t0 h0
  ·omega
theorem RepObj.step {w w':World} {ok:Nat → Prop} {D D':AId → Prop} {m m':AId → Option Blk} {o:AObj} {B:Blk} (h:RepObj w ok D m o B) (hs:Step m w m' w')
  (hB : ∀ b t,B = .at b t → w'.heap[b]? = w.heap[b]?)
  (hD : ∀ id,D id → D' id) (hm : ∀ id,D id → m' id = m id ∨ m' id = none):RepObj w' ok D' m' o B:=by
 cases o with
 | box cs =>
  cases B with
  | nil=>exact h
  | «at» b t =>
   obtain ⟨vs,ty,h1,h2,h3⟩:=h
   refine ⟨vs,ty,(hB b t rfl).trans h1,h2,fun i p hp=>?_⟩
   obtain ⟨v,h4,h5,h6⟩:=h3 i p hp
   exact ⟨v,h4,h5,h6.step hs hD hm⟩
 | row sz ty es =>
  cases B with
  | nil=>exact h
  | «at» b t =>
   obtain ⟨vs,h1,h2,h3,h3',h4,h5,h6⟩:=h
   refine ⟨vs,(hB b t rfl).trans h1,h2,h3,h3',h4,h5,fun i j e p he hp=>?_⟩
   obtain ⟨v,h7,h8,h9⟩:=h6 i j e p he hp
   exact ⟨v,h7,h8,h9.step hs hD hm⟩
 | full sz ty es =>
  cases B with
  | nil=>exact h
  | «at» b t =>
   obtain ⟨vs,h1,h2,h3,h3',h4,h5,h6⟩:=h
   refine ⟨vs,(hB b t rfl).trans h1,h2,h3,h3',h4,h5,fun i j e p he hp=>?_⟩
   rcases h6 i j e p he hp with h7 | ⟨v,h7,h8,h9⟩
   ·exact .inl h7
   ·exact .inr ⟨v,h7,h8,h9.step hs hD hm⟩
 | mp kvs =>
  cases B with
  | nil=>exact h
  | «at» b t =>
   obtain ⟨ents,clock,h1,h2,h3⟩:=h
   refine ⟨ents,clock,(hB b t rfl).trans h1,h2,fun i k x hkx=>?_⟩
   obtain ⟨e,h4,h5,h6⟩:=h3 i k x hkx
   exact ⟨e,h4,h5.step hs hD hm,h6.step hs hD hm⟩
theorem SimH.reloc {D:AId → Prop} {m:AId → Option Blk} {ok:Nat → Prop} {heap:AId → Option AObj} {w w':World} (h:SimH D m ok heap w) (id0:Option AId) (id1:AId) (B1:Blk) (o1:AObj)
  (hos:w'.os = w.os) (htape:w'.tape = w.tape) (hout:w'.output = w.output) (hsz:w.heap.size ≤ w'.heap.size)
  (hkeep : ∀ b,b < w.heap.size → (∀ i t,id0 = some i → m i ≠ some (.at b t)) → w'.heap[b]? = w.heap[b]?)
  (hid:(id0 = some id1 ∧ m id1 = some B1) ∨ ¬ D id1)
  (hB : ∀ b t,B1 = .at b t → b < w'.heap.size ∧ (w.heap.size ≤ b ∨ ∃ i t',id0 = some i ∧ m i = some (.at b t')))
  (hobj:Step m w (fun i=>if i = id1 then some B1 else if id0 = some i then none else m i) w' →
   RepObj w' ok (fun i=>D i ∨ i = id1) (fun i=>if i = id1 then some B1 else if id0 = some i then none else m i) o1 B1) :
  SimH (fun i=>D i ∨ i = id1) (fun i=>if i = id1 then some B1 else if id0 = some i then none else m i) ok (fun i=>if i = id1 then some o1 else if id0 = some i then none else heap i) w' ∧
   Step m w (fun i=>if i = id1 then some B1 else if id0 = some i then none else m i) w' ∧
   (∀ id,D id → (fun i=>if i = id1 then some B1 else if id0 = some i then none else m i) id = m id ∨ (fun i=>if i = id1 then some B1 else if id0 = some i then none else m i) id = none):=by
 have hm' : ∀ id,D id → (fun i=>if i = id1 then some B1 else if id0 = some i then none else m i) id = m id ∨ (fun i=>if i = id1 then some B1 else if id0 = some i then none else m i) id = none:=by
  intro id hd
  by_cases h1:id = id1
  ·subst h1
   rcases hid with ⟨_,he⟩ | hn
   ·left; simp [he]
   ·exact absurd hd hn
  ·by_cases h2:id0 = some id
   ·right; simp [h1,h2]
   ·left; simp [h1,h2]
 have hst:Step m w (fun i=>if i = id1 then some B1 else if id0 = some i then none else m i) w':=by
  refine ⟨hos,htape,hout,hsz,fun b hb hn=>hkeep b hb fun i t _=>hn i t,fun id b t he=>?_⟩
  by_cases h1:id = id1
  ·simp only [h1,if_true] at he
   injection he with he
   rcases (hB b t he).2 with hge | ⟨i,t',_,hi⟩
   ·exact .inr hge
   ·exact .inl ⟨i,t',hi⟩
  ·simp only [h1,if_false] at he
   by_cases h2:id0 = some id
   ·simp [h2] at he
   ·simp only [h2,if_false] at he
    exact .inl ⟨id,t,he⟩
 refine ⟨⟨fun id o he=>?_,fun id B he=>?_,fun id id' b t t' he he'=>?_,fun id b t he=>?_,fun id b t he=>?_,fun b hb=>h.fresh b (Nat.le_trans hsz hb),fun x hx=>?_⟩,hst,hm'⟩
 ·by_cases h1:id = id1
  ·simp only [h1,if_true,Option.some.injEq] at he
   subst he
   exact ⟨B1,by simp [h1],hobj hst⟩
  ·simp only [h1,if_false] at he
   by_cases h2:id0 = some id
   ·simp [h2] at he
   ·simp only [h2,if_false] at he
    obtain ⟨B,hB',ho⟩:=h.obj id o he
    refine ⟨B,by simp [h1,h2,hB'],ho.step hst (fun b t e=>?_) (fun _=>.inl) hm'⟩
    subst e
    exact hkeep b (h.lt id b t hB') fun i t' hi hi'=>h2 (by rw [hi,h.inj i id b t' t hi' hB'])
 ·by_cases h1:id = id1
  ·exact .inr h1
  ·simp only [h1,if_false] at he
   by_cases h2:id0 = some id
   ·simp [h2] at he
   ·simp only [h2,if_false] at he
    exact .inl (h.dom id B he)
 ·have key : ∀ i b t,(fun i=>if i = id1 then some B1 else if id0 = some i then none else m i) i = some (Blk.at b t) → (i = id1 ∧ B1 = .at b t) ∨ (i ≠ id1 ∧ id0 ≠ some i ∧ m i = some (.at b t)):=by
   intro i b t hi
   by_cases h1:i = id1
   ·simp only [h1,if_true] at hi; injection hi with hi; exact .inl ⟨h1,hi⟩
   ·simp only [h1,if_false] at hi
    by_cases h2:id0 = some i
    ·simp [h2] at hi
    ·simp only [h2,if_false] at hi; exact .inr ⟨h1,h2,hi⟩
  have clash : ∀ i b t t',B1 = .at b t → i ≠ id1 → id0 ≠ some i → m i = some (.at b t') → False:=by
   intro i b t t' hb h1 h2 hi
   rcases (hB b t hb).2 with hge | ⟨i0,t0,h0,hi0⟩
   ·have:=h.lt i b t' hi; omega
   ·exact h2 (by rw [h0,h.inj i0 i b t0 t' hi0 hi])
  rcases key id b t he with ⟨h1,hb⟩ | ⟨h1,h2,hi⟩ <;> rcases key id' b t' he' with ⟨h1',hb'⟩ | ⟨h1',h2',hi'⟩
  ·rw [h1,h1']
  ·exact (clash id' b t t' hb h1' h2' hi').elim
  ·exact (clash id b t' t hb' h1 h2 hi).elim
  ·exact h.inj id id' b t t' hi hi'
 ·by_cases h1:id = id1
  ·simp only [h1,if_true] at he; injection he with he; exact (hB b t he).1
  ·simp only [h1,if_false] at he
   by_cases h2:id0 = some id
   ·simp [h2] at he
   ·simp only [h2,if_false] at he; exact Nat.lt_of_lt_of_le (h.lt id b t he) hsz
 ·by_cases h1:id = id1
  ·simp only [h1,if_true] at he
   injection he with he
   rcases (hB b t he).2 with hge | ⟨i,t',_,hi⟩
   ·exact h.fresh b hge
   ·exact h.okm i b t' hi
  ·simp only [h1,if_false] at he
   by_cases h2:id0 = some id
   ·simp [h2] at he
   ·simp only [h2,if_false] at he; exact h.okm id b t he
 ·obtain ⟨hn,o,ho,hp⟩:=h.glob x hx
  have hlt:x.1 < w.heap.size:=(Array.getElem?_eq_some_iff.1 ho).1
  refine ⟨fun id t he=>?_,o,?_,hp⟩
  ·by_cases h1:id = id1
   ·simp only [h1,if_true] at he
    injection he with he
    rcases (hB x.1 t he).2 with hge | ⟨i,t',_,hi⟩
    ·omega
    ·exact hn i t' hi
   ·simp only [h1,if_false] at he
    by_cases h2:id0 = some id
    ·simp [h2] at he
    ·simp only [h2,if_false] at he; exact hn id t he
  ·rw [hkeep x.1 hlt fun i t _ hi=>hn i t hi]
   exact ho
inductive LK where
 | int (k:IntKind) | bool | str
 deriving DecidableEq
inductive EK where
 | scal
 | bool | str
 | flat (ks:List LK)
 | ptr
 | sl
inductive AOp where
 | mov
 | pick
 | alloc (zs:List PVal)
 | box
 | build (zs:List PVal) (parts:List (Nat × Nat))
 | bslice (sz:Nat) (ty:TypeId)
 | load (k:Option Nat)
 | store (n:Nat)
 | nilchk
 | bin (op:BinOp) (ek:EK)
 | unNot | unNeg | unInv
 | conv (k:IntKind)
 | bstr
 | fldA (off:Nat)
 | fld (off:Nat) (k:Option Nat)
 | idxA (sz:Nat)
 | idxAA (len sz:Nat)
 | idxV (len sz:Nat) (k:Option Nat)
 | idxS
 | ext (j:Nat)
 | lenS | lenL | lenM
 | mkfn (f:FuncId) (nf:Nat)
 | mkif (t:TypeId)
 | append (sz:Nat) (ty:TypeId) (bytes:Nat)
 | mkmap
 | lookup (z:PVal) (c:Bool) (lk:LK)
 | mapset (lk:LK)
 | slice (sz:Nat) (lo hi:Bool)
 | sliceS (lo hi:Bool)
 | minmax (isMax:Bool)
 | capL
 | copy (sz:Nat)
 | appendZ (sz:Nat) (ty:TypeId) (bytes:Nat) (zs:List PVal)
 | clear (sz:Nat) (zs:List PVal)
 | sliceZ (sz:Nat) (ty:TypeId)
 | slice3 (sz:Nat)
 | mkslice (sz:Nat) (ty:TypeId) (bytes:Nat) (zs:List PVal)
 | call (f:FuncId)
 | callv
 | bad
inductive AX where
 | t (n:Nat)
 | c (p:PVal)
 | f (g:FuncId)
 | g
structure AO where
 d:Option Nat
 g:Option (Nat × Bool)
 op:AOp
 xs:List AX
inductive AC where
 | skip
 | reg (draw:List (List Nat)) (ops:List AO)
 | seq (a b:AC)
 | cond (c:AX) (a b:AC)
 | block (id:Nat) (a:AC)
 | loop (a:AC)
 | exit (id:Nat)
 | ret
 | bad
def PVal.cells:PVal → Option (List PVal)
 | .agg cs=>some cs
 | .undef | .hole | .tup _=>none
 | p=>some [p]
def splice (cs:List PVal) (off:Nat) (vs:List PVal):List PVal :=
 match vs with
 | [v]=>cs.set off v
 | _=>cs.take off ++ vs ++ cs.drop (off + vs.length)
def peek (k:Option Nat) (cs:List PVal) (off:Nat):Option PVal :=
 match k with
 | none=>cs[off]?
 | some n=>if off + n ≤ cs.length then some (.agg ((cs.drop off).take n)) else none
def fillP:List (Nat × Nat) → List PVal → List PVal → Option (List PVal)
 | [],[],cs=>some cs
 | (off,size) :: r,p :: ps,cs =>
  match p.cells with
  | some vs=>if vs.length = size ∧ off + size ≤ cs.length then fillP r ps (splice cs off vs) else none
  | none=>none
 | _,_,_=>none
def elemsOf (sz:Nat):List PVal → Option (List (List PVal))
 | []=>some []
 | p :: ps =>
  match p.cells,elemsOf sz ps with
  | some vs,some es=>if vs.length = sz ∧ p.closed = true then some (vs :: es) else none
  | _,_=>none
def cellsL (sz:Nat):List PVal → Option (List (List PVal))
 | []=>some []
 | p :: ps =>
  match p.cells,cellsL sz ps with
  | some vs,some es=>if vs.length = sz then some (vs :: es) else none
  | _,_=>none
def leafEq:PVal → PVal → Option Bool
 | .int k a,.int k' b=>if k = k' then some (decide (a = b)) else none
 | .bool a,.bool b=>some (a == b)
 | .str a,.str b=>some (a == b)
 | _,_=>none
def leafIs:LK → PVal → Bool
 | .int k,.int k' _=>k = k'
 | .bool,.bool _=>true
 | .str,.str _=>true
 | _,_=>false
def flatEq:List LK → List PVal → List PVal → Option Bool
 | [],[],[]=>some true
 | k :: ks,p :: ps,q :: qs =>
  if leafIs k p ∧ leafIs k q then
   match leafEq p q,flatEq ks ps qs with
   | some a,some b=>some (a && b)
   | _,_=>none
  else none
 | _,_,_=>none
def binInt (op:BinOp) (k:IntKind) (a b:Int):Option PVal :=
 match op with
 | .add=>some (.int k (k.wrap (a + b)))
 | .sub=>some (.int k (k.wrap (a - b)))
 | .mul=>some (.int k (k.wrap (a * b)))
 | .quo=>if b = 0 then none else some (.int k (k.wrap (a.tdiv b)))
 | .rem=>if b = 0 then none else some (.int k (a.tmod b))
 | .and=>some (.int k (k.wrap (BitVec.ofInt k.bits a &&& BitVec.ofInt k.bits b).toNat))
 | .or=>some (.int k (k.wrap (BitVec.ofInt k.bits a ||| BitVec.ofInt k.bits b).toNat))
 | .xor=>some (.int k (k.wrap (BitVec.ofInt k.bits a ^^^ BitVec.ofInt k.bits b).toNat))
 | .andNot=>some (.int k (k.wrap (BitVec.ofInt k.bits a &&& ~~~BitVec.ofInt k.bits b).toNat))
 | .eql=>some (.bool (decide (a = b)))
 | .neq=>some (.bool (!decide (a = b)))
 | .lss=>some (.bool (decide (a < b)))
 | .leq=>some (.bool (decide (a ≤ b)))
 | .gtr=>some (.bool (decide (b < a)))
 | .geq=>some (.bool (decide (b ≤ a)))
 | _=>none
def binV (op:BinOp) (ek:EK) (x y:PVal):Option PVal :=
 match op,x,y with
 | .shl,.int k a,.int _ b=>if b < 0 then none else some (.int k (k.wrap (a * 2 ^ min b.toNat k.bits)))
 | .shr,.int k a,.int _ b=>if b < 0 then none else some (.int k (a.fdiv (2 ^ min b.toNat k.bits)))
 | op,.int k a,.int k' b=>if k = k' then binInt op k a b else none
 | .eql,.bool a,.bool b=>match ek with | .bool=>some (.bool (a == b)) | _=>none
 | .neq,.bool a,.bool b=>match ek with | .bool=>some (.bool (!(a == b))) | _=>none
 | .eql,.str a,.str b=>some (.bool (a.toList == b.toList))
 | .neq,.str a,.str b=>some (.bool (!(a.toList == b.toList)))
 | .lss,.str a,.str b=>some (.bool (Op.bytesLess a.toList b.toList))
 | .leq,.str a,.str b=>some (.bool (Op.bytesLess a.toList b.toList || a.toList == b.toList))
 | .gtr,.str a,.str b=>some (.bool (!(Op.bytesLess a.toList b.toList || a.toList == b.toList)))
 | .geq,.str a,.str b=>some (.bool (!(Op.bytesLess a.toList b.toList)))
 | .add,.str a,.str b=>if a.size + b.size ≤ 9223372036854775807 then some (.str (a ++ b)) else none
 | .eql,.nilp,.nilp=>match ek with | .ptr=>some (.bool true) | _=>none
 | .neq,.nilp,.nilp=>match ek with | .ptr=>some (.bool false) | _=>none
 | .eql,.rptr _,.nilp=>match ek with | .ptr=>some (.bool false) | _=>none
 | .neq,.rptr _,.nilp=>match ek with | .ptr=>some (.bool true) | _=>none
 | .eql,.nils,.nils=>match ek with | .sl=>some (.bool true) | _=>none
 | .neq,.nils,.nils=>match ek with | .sl=>some (.bool false) | _=>none
 | .eql,.ro _ es,.nils=>match ek with | .sl=>some (if 0 < es.length then .bool false else .anyb) | _=>none
 | .neq,.ro _ es,.nils=>match ek with | .sl=>some (if 0 < es.length then .bool true else .anyb) | _=>none
 | .eql,.agg a,.agg b=>match ek with | .flat ks=>(flatEq ks a b).map .bool | _=>none
 | .neq,.agg a,.agg b=>match ek with | .flat ks=>(flatEq ks a b).map fun r=>.bool (!r) | _=>none
 | _,_,_=>none
def findP (lk:LK) (k:PVal):List (PVal × PVal) → Option (Option PVal)
 | []=>some none
 | (k',x) :: r=>if leafIs lk k' = true then match leafEq k k' with
   | some true=>some (some x)
   | some false=>findP lk k r
   | none=>none
  else none
def setP (lk:LK) (k x:PVal):List (PVal × PVal) → Option (List (PVal × PVal))
 | []=>some [(k,x)]
 | (k',y) :: r=>if leafIs lk k' = true then match leafEq k k' with
   | some true=>some ((k,x) :: r)
   | some false=>match setP lk k x r with
    | some l=>some ((k',y) :: l)
    | none=>none
   | none=>none
  else none
structure R where
 v:PVal
 rh:List AId:=[]
 wh:List (AId × Option AObj):=[]
 nw:List AId:=[]
def bytesP:List (List PVal) → Option (List Int)
 | []=>some []
 | [.int .u8 n] :: r=>(bytesP r).map (n :: ·)
 | _=>none
def strNums (xs:List Int):ByteArray:=⟨(xs.map fun n=>UInt8.ofNat n.toNat).toArray⟩
def elems (h:AId → Option AObj):PVal → Option (Nat × List (List PVal) × List AId)
 | .ro sz es=>some (sz,es,[])
 | .own id sz lo n =>
  match h id with
  | some (.row sz' _ es)=>if sz' = sz ∧ lo + n ≤ es.length then some (sz,(es.drop lo).take n,[id]) else none
  | _=>none
 | _=>none
def PVal.isU:PVal → Bool
 | .undef=>true
 | _=>false
def knownL (es:List (List PVal)):Bool:=es.all fun e=>e.all fun p=>!p.isU
def elemsU (h:AId → Option AObj) (k:Nat):PVal → Option (Nat × List (List PVal) × List AId)
 | .ro sz es=>some (sz,es.take k,[])
 | .own id sz lo n =>
  match h id with
  | some (.row sz' _ es)=>if sz' = sz ∧ lo + n ≤ es.length then some (sz,((es.drop lo).take n).take k,[id]) else none
  | some (.full sz' _ es)=>if sz' = sz ∧ lo + n ≤ es.length ∧ knownL (es.take (lo + min k n)) = true then some (sz,((es.drop lo).take n).take k,[id]) else none
  | _=>none
 | _=>none
def lenP:PVal → Nat
 | .ro _ es=>es.length
 | .own _ _ _ n=>n
 | _=>0
def overE (es:List (List PVal)) (lo:Nat) (es2:List (List PVal)):List (List PVal):=es.take lo ++ es2 ++ es.drop (lo + es2.length)
def sbndC (lo hi:Bool) (len cap:Nat) (bs:List PVal):Option (Nat × Nat) :=
 match lo,hi,bs with
 | true,false,[.int _ l]=>if 0 ≤ l ∧ l ≤ len then some (l.toNat,len) else none
 | false,true,[.int _ u]=>if 0 ≤ u ∧ u ≤ cap then some (0,u.toNat) else none
 | true,true,[.int _ l,.int _ u]=>if 0 ≤ l ∧ l ≤ u ∧ u ≤ cap then some (l.toNat,u.toNat) else none
 | _,_,_=>none
def sbnd (lo hi:Bool) (len:Nat) (bs:List PVal):Option (Nat × Nat) :=
 match lo,hi,bs with
 | false,false,[]=>some (0,len)
 | true,false,[.int _ l]=>if 0 ≤ l ∧ l ≤ len then some (l.toNat,len) else none
 | false,true,[.int _ u]=>if 0 ≤ u ∧ u ≤ len then some (0,u.toNat) else none
 | true,true,[.int _ l,.int _ u]=>if 0 ≤ l ∧ l ≤ u ∧ u ≤ len then some (l.toNat,u.toNat) else none
 | _,_,_=>none
def coreBin (op:BinOp) (ek:EK) (x y:PVal) (h:AId → Option AObj):Option R :=
 match op,ek,x,y with
 | .eql,.ptr,.ptr id _,.nilp=>match h id with | some (.box _)=>some { v:=.bool false,rh:=[id] } | _=>none
 | .neq,.ptr,.ptr id _,.nilp=>match h id with | some (.box _)=>some { v:=.bool true,rh:=[id] } | _=>none
 | .eql,.sl,.own id _ _ n,.nils=>match h id with | some (.row _ _ _)=>if 0 < n then some { v:=.bool false,rh:=[id] } else none | _=>none
 | .neq,.sl,.own id _ _ n,.nils=>match h id with | some (.row _ _ _)=>if 0 < n then some { v:=.bool true,rh:=[id] } else none | _=>none
 | op,ek,x,y=>(binV op ek x y).map fun v=>{ v }
def coreAppF (nx sz ty bytes id sz1 lo n sz1' ty1:Nat) (es:List (List PVal)) (sz2:Nat) (es2:List (List PVal)) (rh2:List AId):Option R :=
 if sz2 = sz ∧ sz1 = sz ∧ sz1' = sz ∧ ty1 = ty ∧ lo = 0 ∧ n ≤ es.length then
  if n + es2.length ≤ es.length then some { v:=.own nx sz 0 (n + es2.length),rh:=id :: rh2,wh:=[(nx,some (.full sz ty (overE es n es2))),(id,none)],nw:=[nx] }
  else if (n + es2.length) * bytes ≤ 140737488355328 ∧ n + es2.length ≤ maxLen ∧ knownL (es.take n) = true then some { v:=.own nx sz 0 (n + es2.length),rh:=id :: rh2,wh:=[(nx,some (.row sz ty (es.take n ++ es2)))],nw:=[nx] }
  else none
 else none
def mm (isMax:Bool) (a b:Int):Int:=if isMax then (if a < b then b else a) else (if b < a then b else a)
def core (op:AOp) (xs:List PVal) (h:AId → Option AObj) (nx:AId):Option R :=
 match op,xs with
 | .mov,[x]=>some { v:=x }
 | .pick,[.bool c,a,b]=>some { v:=if c then a else b }
 | .alloc zs,[]=>some { v:=.ptr nx 0,wh:=[(nx,some (.box zs))],nw:=[nx] }
 | .box,[x] =>
  match x.cells with
  | some cs=>some { v:=.ptr nx 0,wh:=[(nx,some (.box cs))],nw:=[nx] }
  | none=>none
 | .build zs parts,ps=>(fillP parts ps zs).map fun cs=>{ v:=.agg cs }
 | .bslice sz ty,ps =>
  match elemsOf sz ps with
  | some es=>some { v:=.own nx sz 0 ps.length,wh:=[(nx,some (.row sz ty es))],nw:=[nx] }
  | none=>match cellsL sz ps with
   | some es=>some { v:=.own nx sz 0 ps.length,wh:=[(nx,some (.box es.flatten))],nw:=[nx] }
   | none=>none
 | .load k,[.ptr id off] =>
  match h id with
  | some (.box cs)=>(peek k cs off).map fun v=>{ v,rh:=[id] }
  | _=>none
 | .load k,[.eptr id sz i off] =>
  match h id with
  | some (.row sz' _ es)=>if sz' = sz ∧ i < es.length then (peek k (es.getD i []) off).map fun v=>{ v,rh:=[id] } else none
  | _=>none
 | .load k,[.rptr cs]=>(peek k cs 0).map fun v=>{ v }
 | .store n,[.ptr id off,v] =>
  match h id,v.cells with
  | some (.box cs),some vs=>if vs.length = n ∧ off + n ≤ cs.length then some { v:=.hole,rh:=[id],wh:=[(id,some (.box (splice cs off vs)))] } else none
  | _,_=>none
 | .store n,[.eptr id sz i off,v] =>
  match h id,v.cells with
  | some (.row sz' ty es),some vs =>
   if sz' = sz ∧ i < es.length ∧ vs.length = n ∧ off + n ≤ sz ∧ v.closed = true then
    some { v:=.hole,rh:=[id],wh:=[(id,some (.row sz ty (es.set i (splice (es.getD i []) off vs))))] } else none
  | _,_=>none
 | .nilchk,[.ptr id off]=>match h id with | some (.box _)=>some { v:=.ptr id off,rh:=[id] } | _=>none
 | .nilchk,[.rptr cs]=>some { v:=.rptr cs }
 | .nilchk,[.fn f a b]=>some { v:=.fn f a b }
 | .bin op ek,[x,y]=>coreBin op ek x y h
 | .unNot,[.bool b]=>some { v:=.bool (!b) }
 | .unNot,[.anyb]=>some { v:=.anyb }
 | .unNeg,[.int k n]=>some { v:=.int k (k.wrap (-n)) }
 | .unInv,[.int k n]=>(binInt .xor k (if k.signed then -1 else k.max) n).map fun v=>{ v }
 | .conv k,[.int _ n]=>some { v:=.int k (k.wrap n) }
 | .bstr,[x] =>
  match elems h x with
  | some (sz,es,rh)=>match bytesP es with
   | some xs=>if sz = 1 then some { v:=.str (strNums xs),rh } else none
   | none=>none
  | none=>match x with
   | .nils=>some { v:=.str (strNums []) }
   | _=>none
 | .fldA off,[.ptr id o]=>match h id with | some (.box _)=>some { v:=.ptr id (o + off),rh:=[id] } | _=>none
 | .fldA off,[.eptr id sz i o]=>match h id with | some (.row sz' _ es)=>if sz' = sz ∧ i < es.length then some { v:=.eptr id sz i (o + off),rh:=[id] } else none | _=>none
 | .fldA off,[.rptr cs]=>some { v:=.rptr (cs.drop off) }
 | .fld off k,[.agg cs]=>(peek k cs off).map fun v=>{ v }
 | .idxA sz,[.ro sz' es,.int _ i]=>if sz' = sz ∧ 0 ≤ i ∧ i < es.length then some { v:=.rptr (es.getD i.toNat []) } else none
 | .idxA sz,[.own id sz' lo n,.int _ i] =>
  match h id with
  | some (.row sz'' _ es)=>if sz' = sz ∧ sz'' = sz ∧ lo + n ≤ es.length ∧ 0 ≤ i ∧ i < n then some { v:=.eptr id sz (lo + i.toNat) 0,rh:=[id] } else none
  | some (.box _)=>if sz' = sz ∧ 0 ≤ i ∧ i < n then some { v:=.ptr id ((lo + i.toNat) * sz),rh:=[id] } else none
  | _=>none
 | .idxAA len sz,[.ptr id off,.int _ i] =>
  match h id with
  | some (.box _)=>if 0 ≤ i ∧ i < len then some { v:=.ptr id (off + i.toNat * sz),rh:=[id] } else none
  | _=>none
 | .idxAA len sz,[.rptr cs,.int _ i]=>if 0 ≤ i ∧ i < len then some { v:=.rptr (cs.drop (i.toNat * sz)) } else none
 | .idxAA len sz,[.eptr id esz j off,.int _ i] =>
  match h id with
  | some (.row esz' _ es)=>if esz' = esz ∧ j < es.length ∧ 0 ≤ i ∧ i < len then some { v:=.eptr id esz j (off + i.toNat * sz),rh:=[id] } else none
  | _=>none
 | .idxV len sz k,[.agg cs,.int _ i]=>if 0 ≤ i ∧ i < len then (peek k cs (i.toNat * sz)).map fun v=>{ v } else none
 | .idxS,[.str s,.int _ i]=>if 0 ≤ i ∧ i < s.size then (s.data.toList[i.toNat]?).map fun b=>{ v:=.int .u8 b.toNat } else none
 | .ext j,[.tup cs]=>(cs[j]?).map fun v=>{ v }
 | .lenS,[.str s]=>some { v:=.int .i64 s.size }
 | .lenL,[.nils]=>some { v:=.int .i64 0 }
 | .lenL,[.ro _ es]=>some { v:=.int .i64 es.length }
 | .lenL,[.own id _ _ n]=>match h id with | some (.row ..)=>some { v:=.int .i64 n,rh:=[id] } | some (.full ..)=>some { v:=.int .i64 n,rh:=[id] } | some (.box _)=>some { v:=.int .i64 n,rh:=[id] } | _=>none
 | .capL,[.nils]=>some { v:=.int .i64 (0:Nat) }
 | .capL,[.own id _ lo _]=>match h id with | some (.full _ _ es)=>if lo ≤ es.length then some { v:=.int .i64 (es.length - lo:Nat),rh:=[id] } else none | _=>none
 | .copy sz,[.own id sz1 lo n,x] =>
  match h id with
  | some (.full sz' ty es) =>
   match elemsU h n x with
   | some (sz2,es2,rh2)=>if sz1 = sz ∧ sz' = sz ∧ sz2 = sz ∧ lo + n ≤ es.length ∧ 0 < n then some { v:=.int .i64 es2.length,rh:=id :: rh2,wh:=[(id,some (.full sz ty (overE es lo es2)))] } else none
   | none=>none
  | some (.row sz' ty es) =>
   match elemsU h n x with
   | some (sz2,es2,rh2)=>if sz1 = sz ∧ sz' = sz ∧ sz2 = sz ∧ lo + n ≤ es.length ∧ 0 < n then some { v:=.int .i64 es2.length,rh:=id :: rh2,wh:=[(id,some (.row sz ty (overE es lo es2)))] } else none
   | none=>none
  | _=>none
 | .appendZ sz ty bytes zs,[.nils,.int _ k] =>
  if 0 < k ∧ k.toNat * bytes ≤ 140737488355328 ∧ k.toNat ≤ maxLen then
   some { v:=.own nx sz 0 k.toNat,wh:=[(nx,some (.row sz ty (List.replicate k.toNat zs)))],nw:=[nx] } else none
 | .appendZ sz ty bytes zs,[.own id sz1 lo n,.int _ k] =>
  match h id with
  | some (.full sz' _ es) =>
   if sz1 = sz ∧ sz' = sz ∧ lo = 0 ∧ n ≤ es.length ∧ 0 < k ∧ es.length < n + k.toNat ∧ (n + k.toNat) * bytes ≤ 140737488355328 ∧ n + k.toNat ≤ maxLen ∧ knownL (es.take n) = true then
    some { v:=.own nx sz 0 (n + k.toNat),rh:=[id],wh:=[(nx,some (.row sz ty (es.take n ++ List.replicate k.toNat zs)))],nw:=[nx] } else none
  | _=>none
 | .clear sz zs,[.own id sz1 lo n] =>
  match h id with
  | some (.full sz' ty es) =>
   if sz1 = sz ∧ sz' = sz ∧ lo + n ≤ es.length ∧ 0 < n then some { v:=.hole,rh:=[id],wh:=[(id,some (.full sz ty (overE es lo (List.replicate n zs))))] } else none
  | some (.row sz' ty es) =>
   if sz1 = sz ∧ sz' = sz ∧ lo + n ≤ es.length ∧ 0 < n then some { v:=.hole,rh:=[id],wh:=[(id,some (.row sz ty (overE es lo (List.replicate n zs))))] } else none
  | _=>none
 | .sliceZ sz ty,[.ro _ _,.int _ a,.int _ b]=>if a = 0 ∧ b = 0 then some { v:=.own nx sz 0 0,wh:=[(nx,some (.row sz ty []))],nw:=[nx] } else none
 | .sliceZ sz ty,[.nils,.int _ a,.int _ b]=>if a = 0 ∧ b = 0 then some { v:=.own nx sz 0 0,wh:=[(nx,some (.row sz ty []))],nw:=[nx] } else none
 | .slice3 _,[.own id _ lo n,.int _ l,.int _ u,.int _ x] =>
  match h id with
  | some (.full _ _ es)=>if 0 ≤ l ∧ l ≤ u ∧ u ≤ x ∧ x ≤ n then some { v:=.undef,rh:=[id] } else none
  | _=>none
 | .mkslice sz ty bytes zs,[.int _ l,.int _ c] =>
  if l = c ∧ 0 ≤ l ∧ bytes * l.toNat ≤ 281474976710656 ∧ l.toNat ≤ maxLen then some { v:=.own nx sz 0 l.toNat,wh:=[(nx,some (.row sz ty (List.replicate l.toNat zs)))],nw:=[nx] } else none
 | .lenM,[.mapr id]=>match h id with | some (.mp kvs)=>some { v:=.int .i64 kvs.length,rh:=[id] } | _=>none
 | .lenM,[.nilm]=>some { v:=.int .i64 0 }
 | .mkfn f nf,ps=>some { v:=.fn f (ps.take nf) (ps.drop nf) }
 | .mkif t,[x]=>some { v:=.iface t x }
 | .append sz ty bytes,[s,x] =>
  match elems h x with
  | some (sz2,es2,rh2) =>
   match s with
   | .nils=>if sz2 = sz ∧ es2.length * bytes ≤ 140737488355328 ∧ es2.length ≤ maxLen then some { v:=.own nx sz 0 es2.length,rh:=rh2,wh:=[(nx,some (.row sz ty es2))],nw:=[nx] } else none
   | .own id sz1 lo n =>
    match h id with
    | some (.row sz1' ty1 es) =>
     if sz2 = sz ∧ sz1 = sz ∧ sz1' = sz ∧ ty1 = ty ∧ lo = 0 ∧ n = es.length ∧ (es.length + es2.length) * bytes ≤ 140737488355328 ∧ es.length + es2.length ≤ maxLen ∧ ¬ id ∈ rh2 then
      some { v:=.own nx sz 0 (es.length + es2.length),rh:=id :: rh2,wh:=[(nx,some (.row sz ty (es ++ es2))),(id,none)],nw:=[nx] } else none
    | some (.full sz1' ty1 es)=>coreAppF nx sz ty bytes id sz1 lo n sz1' ty1 es sz2 es2 rh2
    | _=>none
   | _=>none
  | none =>
   match s with
   | .own id sz1 lo n =>
    match h id with
    | some (.full sz1' ty1 es) =>
     match elemsU h (lenP x) x with
     | some (sz2,es2,rh2)=>coreAppF nx sz ty bytes id sz1 lo n sz1' ty1 es sz2 es2 rh2
     | none=>none
    | _=>none
   | _=>none
 | .slice sz lo hi,.ro sz' es :: bs =>
  match sbnd lo hi es.length bs with
  | some (l,u)=>if sz' = sz then some { v:=.ro sz ((es.drop l).take (u - l)) } else none
  | none=>none
 | .slice sz lo hi,.own id sz' s n :: bs =>
  match h id with
  | some (.row sz'' _ es) =>
   match sbnd lo hi n bs with
   | some (l,u)=>if sz' = sz ∧ sz'' = sz then some { v:=.own id sz (s + l) (u - l),rh:=[id] } else none
   | none=>none
  | some (.full sz'' _ es) =>
   match sbndC lo hi n (es.length - s) bs with
   | some (l,u)=>if sz' = sz ∧ sz'' = sz ∧ s + n ≤ es.length then some { v:=.own id sz (s + l) (u - l),rh:=[id] } else none
   | none=>none
  | _=>none
 | .slice _ lo hi,.nils :: bs =>
  match sbnd lo hi 0 bs with
  | some _=>some { v:=.nils }
  | none=>none
 | .sliceS lo hi,.str s :: bs =>
  match sbnd lo hi s.size bs with
  | some (l,u)=>some { v:=.str (s.extract l u) }
  | none=>none
 | .minmax isMax,[.int k a,.int k' b]=>if k = k' then some { v:=.int k (if isMax then (if a < b then b else a) else (if b < a then b else a)) } else none
 | .minmax isMax,[.int k a,.int k' b,.int k'' c]=>if k = k' ∧ k = k'' then some { v:=.int k (mm isMax (mm isMax a b) c) } else none
 | .mkmap,[]=>some { v:=.mapr nx,wh:=[(nx,some (.mp []))],nw:=[nx] }
 | .lookup z c lk,[.nilm,k]=>if leafIs lk k = true then some { v:=if c then .tup [z,.bool false] else z } else none
 | .lookup z c lk,[.mapr id,k] =>
  match h id with
  | some (.mp kvs) =>
   if leafIs lk k = true then
    match findP lk k kvs with
    | some (some x)=>some { v:=if c then .tup [x,.bool true] else x,rh:=[id] }
    | some none=>some { v:=if c then .tup [z,.bool false] else z,rh:=[id] }
    | none=>none
   else none
  | _=>none
 | .mapset lk,[.mapr id,k,x] =>
  match h id with
  | some (.mp kvs) =>
   if leafIs lk k = true ∧ x.closed = true then
    match setP lk k x kvs with
    | some l=>some { v:=.hole,rh:=[id],wh:=[(id,some (.mp l))] }
    | none=>none
   else none
  | _=>none
 | _,_=>none
def ofConst1:Value → Option PVal
 | .bool b=>some (.bool b)
 | .int k n=>some (.int k n)
 | .string s=>some (.str s)
 | .pointer none=>some .nilp
 | .slice none 0 0=>some .nils
 | .nilFunc=>some .nilf
 | .nilIface=>some .nili
 | .map none=>some .nilm
 | _=>none
def ofConsts:List Value → Option (List PVal)
 | []=>some []
 | v :: r=>match ofConst1 v,ofConsts r with
  | some p,some ps=>some (p :: ps)
  | _,_=>none
def ofConst:Value → Option PVal
 | .agg cs=>(ofConsts cs.toList).map .agg
 | v=>ofConst1 v
def zeroC (v:Value):Option (List PVal):=ofConsts v.cells.toList
def isAggD:TypeDesc → Bool
 | .struct _ | .array _ _=>true
 | _=>false
def kindOf (P:Program) (t:TypeId):Option (Option Nat) :=
 match P.underlying t,P.info? t with
 | some d,some i=>some (if isAggD d then some i.size else none)
 | _,_=>none
def partsOf (P:Program) (fields:Array Field):List (Nat × Operand) → Option (List (Nat × Nat) × List Operand)
 | []=>some ([],[])
 | (i,x) :: r =>
  match fields[i]?,partsOf P fields r with
  | some f,some (ps,xs)=>(P.info? f.type).map fun ti=>((f.offset,ti.size) :: ps,x :: xs)
  | _,_=>none
def partsFull:Nat → List (Nat × Operand) → Option (List Operand)
 | _,[]=>some []
 | k,(i,x) :: r=>if i = k then (partsFull (k + 1) r).map (x :: ·) else none
def partsArr (sz:Nat):List (Nat × Operand) → List (Nat × Nat) × List Operand
 | []=>([],[])
 | (i,x) :: r=>((i * sz,sz) :: (partsArr sz r).1,x :: (partsArr sz r).2)
def LKof:TypeDesc → Option LK
 | .int k=>some (.int k)
 | .bool=>some .bool
 | .string=>some .str
 | _=>none
mutual
def flatK (P:Program):Nat → TypeId → Option (List LK)
 | 0,_=>none
 | d + 1,t =>
  match P.underlying t with
  | some (.int k)=>some [.int k]
  | some .bool=>some [.bool]
  | some .string=>some [.str]
  | some (.struct fs)=>if P.stoodInHeld t then none else flatF P d fs.toList 0
  | _=>none
def flatF (P:Program):Nat → List Field → Nat → Option (List LK)
 | 0,_,_=>none
 | _ + 1,[],_=>some []
 | d + 1,f :: r,off =>
  if f.name = "_" ∨ f.offset ≠ off then none else
  match flatK P d f.type,P.info? f.type,flatF P d r (off + ((P.info? f.type).map (·.size)).getD 0) with
  | some ks,some i,some ls=>if ks.length = i.size then some (ks ++ ls) else none
  | _,_,_=>none
end
def ekOf (P:Program) (t:TypeId):Option EK :=
 match P.underlying t with
 | some .bool=>some .bool
 | some (.int _)=>some .scal
 | some .string=>some .scal
 | some (.struct _)=>if P.eqGuardType P.depth t then none else (flatK P 60 t).map .flat
 | some (.array len e)=>match P.underlying e,P.info? e with
  | some (.int k),some ie=>if P.eqGuardType P.depth t = false ∧ ie.size = 1 then some (.flat (List.replicate len (.int k))) else none
  | _,_=>none
 | some (.pointer _)=>some .ptr
 | some (.slice _)=>some .sl
 | _=>none
def weak1:Option Nat → PVal → PVal
 | some s,.nils=>.ro s []
 | _,p=>p
def weakW:List (Option Nat) → List PVal → List PVal
 | s :: ss,p :: ps=>weak1 s p :: weakW ss ps
 | _,ps=>ps
def cellZ (P:Program):Nat → TypeId → List (Option Nat)
 | 0,_=>[]
 | d + 1,t=>match P.underlying t with
  | some (.slice e)=>[(P.info? e).map (·.size)]
  | some (.struct fs)=>fs.toList.flatMap fun f=>cellZ P d f.type
  | some (.array n e)=>(List.replicate n (cellZ P d e)).flatten
  | _=>[none]
def trans (P:Program):Op → Option (AOp × List Operand)
 | .move x | .assign x=>some (.mov,[x])
 | .pick c a b=>some (.pick,[c,a,b])
 | .alloc e=>match P.info? e with
  | some i=>match i.zero with
   | some z=>(zeroC z).map fun zs=>(.alloc zs,[])
   | none=>none
  | none=>none
 | .box _ x=>some (.box,[x])
 | .build t parts=>match P.info? t,P.underlying t with
  | some i,some (.struct fields)=>match i.zero with
   | some z=>if !(fields.all fun f=>(P.info? f.type).isSome) then none else match zeroC z,partsOf P fields parts.toList with
    | some zs,some (ps,xs)=>some (.build zs ps,xs)
    | _,_=>none
   | none=>none
  | some i,some (.array _ e)=>match i.zero,P.info? e with
   | some z,some ie=>(zeroC z).map fun zs=>(.build zs (partsArr ie.size parts.toList).1,(partsArr ie.size parts.toList).2)
   | _,_=>none
  | _,_=>none
 | .buildSlice t len parts=>match P.underlying t with
  | some (.slice e)=>match P.info? e,partsFull 0 parts.toList with
   | some i,some xs=>if xs.length = len ∧ 0 < i.size ∧ len * i.size ≤ 2 ^ 24 ∧ (i.zero.map fun z=>z.cells.size) = some i.size then some (.bslice i.size e,xs) else none
   | _,_=>none
  | _=>none
 | .load t x=>(kindOf P t).map fun k=>(.load k,[x])
 | .store t x v=>match P.info? t with
  | some i=>some (.store i.size,[x,v])
  | none=>none
 | .nilCheck x=>some (.nilchk,[x])
 | .binOp op t x y _=>(ekOf P t).map fun ek=>(.bin op ek,[x,y])
 | .unOp .not _ x=>some (.unNot,[x])
 | .unOp .neg _ x=>some (.unNeg,[x])
 | .unOp .xor _ x=>some (.unInv,[x])
 | .convert src dst x=>match P.underlying src,P.underlying dst with
  | some (.int _),some (.int k)=>some (.conv k,[x])
  | some (.slice e),some .string=>match P.underlying e with
   | some (.int .u8)=>some (.bstr,[x])
   | _=>none
  | _,_=>none
 | .fieldAddr s x f=>match P.underlying s with
  | some (.struct fields)=>match fields[f]? with
   | some fl=>match P.info? fl.type with
    | some i=>if i.size = 0 then none else some (.fldA fl.offset,[x])
    | none=>none
   | none=>none
  | _=>none
 | .field s x f=>match P.underlying s with
  | some (.struct fields)=>match fields[f]? with
   | some fl=>(kindOf P fl.type).map fun k=>(.fld fl.offset k,[x])
   | none=>none
  | _=>none
 | .indexAddr t x i=>match P.underlying t with
  | some (.slice e)=>(P.info? e).map fun ti=>(.idxA ti.size,[x,i])
  | some (.array len e)=>(P.info? e).map fun ti=>(.idxAA len ti.size,[x,i])
  | _=>none
 | .index t x i=>match P.underlying t with
  | some .string=>some (.idxS,[x,i])
  | some (.array len e)=>match P.info? e,kindOf P e with
   | some ti,some k=>some (.idxV len ti.size k,[x,i])
   | _,_=>none
  | _=>none
 | .extract x j=>some (.ext j,[x])
 | .makeFunc (.func f) first captured=>some (.mkfn f first.size,first.toList ++ captured.toList)
 | .makeInterface t x=>match P.underlying t with
  | some (.interface _)=>none
  | some _=>some (.mkif t,[x])
  | none=>none
 | .call { callee:=.builtin .len,args,argTypes }=>match args.toList,argTypes.toList with
  | [x],[t]=>match P.underlying t with
   | some .string=>some (.lenS,[x])
   | some (.slice _)=>some (.lenL,[x])
   | some (.map _ _)=>some (.lenM,[x])
   | _=>none
  | _,_=>none
 | .call { callee:=.builtin .append,args,argTypes }=>match args.toList,argTypes.toList with
  | [s,x],[t,t']=>if t = t' then match P.underlying t with
    | some (.slice e)=>match P.info? e with
     | some i=>match i.zero with
      | some z=>if 0 < i.size ∧ z.cells.size = i.size then some (.append i.size e i.bytes,[s,x]) else none
      | none=>none
     | none=>none
    | _=>none
   else match P.underlying t,P.underlying t' with
    | some (.slice e),some (.int _)=>match P.info? e with
     | some i=>match i.zero with
      | some z=>if 0 < i.size ∧ z.cells.size = i.size then (zeroC z).map fun zs=>(.appendZ i.size e i.bytes zs,[s,x]) else none
      | none=>none
     | none=>none
    | _,_=>none
  | _,_=>none
 | .call { callee:=.builtin .cap,args,argTypes }=>match args.toList,argTypes.toList with
  | [x],[t]=>match P.underlying t with
   | some (.slice _)=>some (.capL,[x])
   | _=>none
  | _,_=>none
 | .call { callee:=.builtin .copy,args,argTypes }=>match args.toList,argTypes.toList with
  | [d,s],[t,_]=>match P.underlying t with
   | some (.slice e)=>(P.info? e).map fun i=>(.copy i.size,[d,s])
   | _=>none
  | _,_=>none
 | .call { callee:=.builtin .clear,args,argTypes }=>match args.toList,argTypes.toList with
  | [x],[t]=>match P.underlying t with
   | some (.slice e)=>match P.info? e with
    | some i=>match i.zero with
     | some z=>if z.cells.size = i.size then (zeroC z).map fun zs=>(.clear i.size (weakW (cellZ P 20 e) zs),[x]) else none
     | none=>none
    | none=>none
   | _=>none
  | _,_=>none
 | .call { callee:=.builtin .max,args,.. }=>match args.toList with
  | [x,y]=>some (.minmax true,[x,y])
  | [x,y,z]=>some (.minmax true,[x,y,z])
  | _=>none
 | .call { callee:=.builtin .min,args,.. }=>match args.toList with
  | [x,y]=>some (.minmax false,[x,y])
  | [x,y,z]=>some (.minmax false,[x,y,z])
  | _=>none
 | .slice t x lo hi none=>match P.underlying t with
  | some .string=>some (.sliceS lo.isSome hi.isSome,x :: (lo.toList ++ hi.toList))
  | some (.slice e)=>(P.info? e).map fun ti=>(.slice ti.size lo.isSome hi.isSome,x :: (lo.toList ++ hi.toList))
  | _=>none
 | .slice t x none (some hi) (some mx)=>match P.underlying t with
  | some (.slice e)=>(P.info? e).bind fun ti=>if 0 < ti.size then some (.sliceZ ti.size e,[x,hi,mx]) else none
  | _=>none
 | .slice t x (some lo) (some hi) (some mx)=>match P.underlying t with
  | some (.slice e)=>(P.info? e).map fun ti=>(.slice3 ti.size,[x,lo,hi,mx])
  | _=>none
 | .makeMap _ none=>some (.mkmap,[])
 | .makeSlice t l c=>match P.underlying t with
  | some (.slice e)=>match P.info? e with
   | some i=>match i.zero with
    | some z=>if 0 < i.size ∧ z.cells.size = i.size then (zeroC z).map fun zs=>(.mkslice i.size e i.bytes (weakW (cellZ P 20 e) zs),[l,c]) else none
    | none=>none
   | none=>none
  | _=>none
 | .lookup t x i c=>match P.underlying t with
  | some (.map k e)=>match P.underlying k,P.info? e with
   | some d,some ie=>match LKof d,ie.zero with
    | some lk,some z=>(ofConst z).map fun zp=>(.lookup zp c lk,[x,i])
    | _,_=>none
   | _,_=>none
  | _=>none
 | .mapUpdate t m i x=>match P.underlying t with
  | some (.map k _)=>match P.underlying k with
   | some d=>(LKof d).map fun lk=>(.mapset lk,[m,i,x])
   | none=>none
  | _=>none
 | .insert t m i x=>match P.underlying t with
  | some (.map k _)=>match P.underlying k with
   | some d=>(LKof d).map fun lk=>(.mapset lk,[m,i,x])
   | none=>none
  | _=>none
 | .call { callee:=.value (.func f),args,.. }=>some (.call f,args.toList)
 | .call { callee:=.value (.tmp t),args,.. }=>some (.callv,.tmp t :: args.toList)
 | _=>some (.bad,[])
def ofOperand:Operand → Option AX
 | .tmp t=>some (.t t)
 | .const v=>(ofConst v).map .c
 | .func f=>some (.f f)
 | .global _=>none
def ofOp (x:Operand):AX:=match ofOperand x with
 | some a=>a
 | none=>.g
def ofOps:List Operand → List AX
 | []=>[]
 | x :: r=>ofOp x :: ofOps r
def ofGuard (ops:Array Oper):Option (Nat × Bool) → Option (Option (Nat × Bool))
 | none=>some none
 | some (j,b)=>match (ops[j]?).bind (·.dst) with
  | some t=>some (some (t,b))
  | none=>none
def transOper (P:Program) (ops:Array Oper) (o:Oper):Option AO :=
 match ofGuard ops o.guard with
 | some g=>match trans P o.op with
  | some (op,xs)=>some { d:=o.dst,g,op,xs:=ofOps xs }
  | none=>some { d:=o.dst,g,op:=.bad,xs:=[] }
 | none=>none
def transOpers (P:Program) (ops:Array Oper):List Oper → Option (List AO)
 | []=>some []
 | o :: r=>match transOper P ops o,transOpers P ops r with
  | some a,some l=>some (a :: l)
  | _,_=>none
def directs (ops:Array Oper):List (List Nat):=ops.toList.map fun o=>((o.after.toList.filter fun e=>Region.binds .any e).map (·.on))
def transC (P:Program):Code → Option AC
 | .skip=>some .skip
 | .region _ ops draw=>(transOpers P ops ops.toList).map fun l=>.reg (if draw then directs ops else []) l
 | .seq a b=>match transC P a,transC P b with
  | some x,some y=>some (.seq x y)
  | _,_=>none
 | .cond c a b=>match transC P a,transC P b with
  | some x,some y=>some (.cond (ofOp c) x y)
  | _,_=>none
 | .block id a=>(transC P a).map (.block id)
 | .loop a=>(transC P a).map .loop
 | .exit id=>some (.exit id)
 | .ret=>some .ret
 | _=>some .bad
def Reps (w:World) (ok:Nat → Prop) (D:AId → Prop) (m:AId → Option Blk) (c:Bool) (ps:List PVal) (vs:List Value):Prop :=
 ps.length = vs.length ∧ ∀ (i:Nat) (p:PVal) (v:Value),ps[i]? = some p → vs[i]? = some v → Rep w ok D m c p v
theorem Reps.nil (w:World) (ok:Nat → Prop) (D:AId → Prop) (m:AId → Option Blk) (c:Bool):Reps w ok D m c [] []:=⟨rfl,fun i p v hp=>by simp at hp⟩
theorem Reps.cons {w:World} {ok:Nat → Prop} {D:AId → Prop} {m:AId → Option Blk} {c:Bool} {p:PVal} {v:Value} {ps:List PVal} {vs:List Value} (h:Rep w ok D m c p v) (hs:Reps w ok D m c ps vs) :
  Reps w ok D m c (p :: ps) (v :: vs):=by
 refine ⟨by simp [hs.1],fun i q u hq hu=>?_⟩
 cases i with
 | zero=>simp at hq hu; subst hq hu; exact h
 | succ i=>exact hs.2 i q u (by simpa using hq) (by simpa using hu)
theorem Reps.head {w:World} {ok:Nat → Prop} {D:AId → Prop} {m:AId → Option Blk} {c:Bool} {p:PVal} {v:Value} {ps:List PVal} {vs:List Value} (h:Reps w ok D m c (p :: ps) (v :: vs)):Rep w ok D m c p v:=h.2 0 p v rfl rfl
theorem Reps.tail {w:World} {ok:Nat → Prop} {D:AId → Prop} {m:AId → Option Blk} {c:Bool} {p:PVal} {v:Value} {ps:List PVal} {vs:List Value} (h:Reps w ok D m c (p :: ps) (v :: vs)):Reps w ok D m c ps vs :=
 ⟨by have:=h.1; simpa using this,fun i q u hq hu=>h.2 (i + 1) q u (by simpa using hq) (by simpa using hu)⟩
theorem Reps.uncons {w:World} {ok:Nat → Prop} {D:AId → Prop} {m:AId → Option Blk} {c:Bool} {p:PVal} {ps:List PVal} {vs:List Value} (h:Reps w ok D m c (p :: ps) vs) :
  ∃ v vs',vs = v :: vs' ∧ Rep w ok D m c p v ∧ Reps w ok D m c ps vs':=by
 cases vs with
 | nil=>have:=h.1; simp at this
 | cons v vs'=>exact ⟨v,vs',rfl,h.head,h.tail⟩
theorem Reps.unnil {w:World} {ok:Nat → Prop} {D:AId → Prop} {m:AId → Option Blk} {c:Bool} {vs:List Value} (h:Reps w ok D m c [] vs):vs = []:=List.eq_nil_of_length_eq_zero h.1.symm
theorem Reps.append {w:World} {ok:Nat → Prop} {D:AId → Prop} {m:AId → Option Blk} {c:Bool} {ps qs:List PVal} {vs us:List Value} (h:Reps w ok D m c ps vs) (k:Reps w ok D m c qs us):Reps w ok D m c (ps ++ qs) (vs ++ us):=by
 refine ⟨by simp [h.1,k.1],fun i p v hp hv=>?_⟩
 by_cases hi:i < ps.length
 ·rw [List.getElem?_append_left hi] at hp
  rw [List.getElem?_append_left (by rw [← h.1]; exact hi)] at hv
  exact h.2 i p v hp hv
 ·rw [List.getElem?_append_right (by omega)] at hp
  rw [List.getElem?_append_right (by rw [← h.1]; omega),← h.1] at hv
  exact k.2 _ p v hp hv
theorem Reps.take {w:World} {ok:Nat → Prop} {D:AId → Prop} {m:AId → Option Blk} {c:Bool} {ps:List PVal} {vs:List Value} (h:Reps w ok D m c ps vs) (n:Nat):Reps w ok D m c (ps.take n) (vs.take n):=by
 refine ⟨by simp [h.1],fun i p v hp hv=>h.2 i p v ?_ ?_⟩
 ·rw [List.getElem?_take] at hp; split at hp <;> simp_all
 ·rw [List.getElem?_take] at hv; split at hv <;> simp_all
theorem Reps.drop {w:World} {ok:Nat → Prop} {D:AId → Prop} {m:AId → Option Blk} {c:Bool} {ps:List PVal} {vs:List Value} (h:Reps w ok D m c ps vs) (n:Nat):Reps w ok D m c (ps.drop n) (vs.drop n):=by
 refine ⟨by simp [h.1],fun i p v hp hv=>h.2 (n + i) p v ?_ ?_⟩
 ·rwa [List.getElem?_drop] at hp
 ·rwa [List.getElem?_drop] at hv
theorem Reps.set {w:World} {ok:Nat → Prop} {D:AId → Prop} {m:AId → Option Blk} {c:Bool} {ps:List PVal} {vs:List Value} (h:Reps w ok D m c ps vs) {p:PVal} {v:Value} (hp:Rep w ok D m c p v) (n:Nat) :
  Reps w ok D m c (ps.set n p) (vs.set n v):=by
 refine ⟨by simp [h.1],fun i q u hq hu=>?_⟩
 rw [List.getElem?_set] at hq hu
 by_cases e:n = i
 ·rw [if_pos e] at hq hu
  split at hq
  ·split at hu
   ·injection hq with hq; injection hu with hu; subst hq hu; exact hp
   ·cases hu
  ·cases hq
 ·rw [if_neg e] at hq hu
  exact h.2 i q u hq hu
theorem Reps.mono {w w':World} {ok ok':Nat → Prop} {D D':AId → Prop} {m m':AId → Option Blk} {c c':Bool} {ps:List PVal} {vs:List Value} (h:Reps w ok D m c ps vs) (hh : ∀ p v,Rep w ok D m c p v → Rep w' ok' D' m' c' p v):Reps w' ok' D' m' c' ps vs :=
 ⟨h.1,fun i p v hp hv=>hh p v (h.2 i p v hp hv)⟩
def spliceV (vs:List Value) (off:Nat) (us:List Value):List Value :=
 match us with
 | [u]=>vs.set off u
 | _=>vs.take off ++ us ++ vs.drop (off + us.length)
theorem Reps.splice {w:World} {ok:Nat → Prop} {D:AId → Prop} {m:AId → Option Blk} {c:Bool} {ps qs:List PVal} {vs us:List Value} (h:Reps w ok D m c ps vs) (k:Reps w ok D m c qs us) (off:Nat) :
  Reps w ok D m c (Abs.splice ps off qs) (spliceV vs off us):=by
 match qs,us,k with
 | [],[],k=>simpa [Abs.splice,spliceV] using h
 | [q],[u],k=>exact h.set k.head off
 | q :: q' :: qs,u :: u' :: us,k =>
  have:=((h.take off).append k).append (h.drop (off + (q :: q' :: qs).length))
  rw [k.1] at this
  simpa [Abs.splice,spliceV,k.1] using this
 | [],_ :: _,k=>have:=k.1; simp at this
 | _ :: _,[],k=>have:=k.1; simp at this
 | [_],_ :: _ :: _,k=>have:=k.1; simp at this
 | _ :: _ :: _,[_],k=>have:=k.1; simp at this
section
variable {w:World} {ok:Nat → Prop} {D:AId → Prop} {m:AId → Option Blk} {c:Bool}
theorem ff {v:Value} {p:PVal} (h:ofConst1 v = some p):Rep w ok D m c p v ∧ v.oneCell' = true:=by
 unfold ofConst1 at h
 split at h <;> simp at h <;> subst h
 ·exact ⟨.bool,rfl⟩
 ·exact ⟨.int,rfl⟩
 ·exact ⟨.str,rfl⟩
 ·exact ⟨.nilp,rfl⟩
 ·exact ⟨.nils,rfl⟩
 ·exact ⟨.nilf,rfl⟩
 ·exact ⟨.nili,rfl⟩
 ·exact ⟨.nilm,rfl⟩
theorem cO : ∀ {vs:List Value} {ps:List PVal},ofConsts vs = some ps → (∀ v ∈ vs,v.oneCell' = true) ∧ Reps w ok D m c ps vs
 | [],ps,h=>by
  simp [ofConsts] at h
  subst h
  exact ⟨fun v hv=>by simp at hv,Reps.nil ..⟩
 | v :: r,ps,h=>by
  unfold ofConsts at h
  split at h
  ·rename_i p ps' h1 h2
   injection h with h
   subst h
   obtain ⟨a2,a3⟩:=cO h2
   obtain ⟨b1,b2⟩:=ff (w:=w) (ok:=ok) (D:=D) (m:=m) (c:=c) h1
   refine ⟨fun u hu=>?_,Reps.cons b1 a3⟩
   rcases List.mem_cons.1 hu with rfl | hu
   ·exact b2
   ·exact a2 u hu
  ·cases h
theorem fX {v:Value} {p:PVal} (h:ofConst v = some p):Rep w ok D m c p v:=by
 unfold ofConst at h
 split at h
 ·rename_i cs
  obtain ⟨ps,h1,rfl⟩:=Option.map_eq_some_iff.1 h
  obtain ⟨a2,a3⟩:=cO (w:=w) (ok:=ok) (D:=D) (m:=m) (c:=c) h1
  have:=Rep.agg (w:=w) (ok:=ok) (D:=D) (m:=m) (c:=c) a3.1 a2 a3.2
  simpa using this
 ·exact (ff h).1
theorem one_cells {v:Value} (h:v.oneCell' = true):v.cells = #[v]:=by cases v <;> simp_all [Value.cells,Value.oneCell']
theorem cz {p:PVal} {v:Value} {cs:List PVal} (h:Rep w ok D m c p v) (hc:p.cells = some cs):(∀ u ∈ v.cells.toList,u.oneCell' = true) ∧ Reps w ok D m c cs v.cells.toList:=by
 by_cases ho:p.one = true
 ·have h1:=h.one ho
  have hcs:cs = [p]:=by
   cases p <;> simp_all [PVal.cells,PVal.one]
  subst hcs
  rw [one_cells h1]
  exact ⟨fun u hu=>by simp at hu; subst hu; exact h1,Reps.cons h (Reps.nil ..)⟩
 ·cases h
  case agg cs' vs hl h1 h2 =>
   simp [PVal.cells] at hc
   subst hc
   exact ⟨fun u hu=>h1 u (by simpa [Value.cells] using hu),by have:Reps w ok D m c cs' vs:=⟨hl,h2⟩; simpa only [Value.cells] using this⟩
  all_goals simp_all [PVal.cells,PVal.one]
end
def happ (wh:List (AId × Option AObj)) (heap:AId → Option AObj):AId → Option AObj:=fun id=>match wh.lookup id with
 | some o=>o
 | none=>heap id
def Out (P:Program) (o:Oper) (ρ:Operand → Value) (D:AId → Prop) (m:AId → Option Blk) (ok:Nat → Prop) (heap:AId → Option AObj) (w:World) (r:R):Prop :=
 ∃ (v:Value) (w':World) (D':AId → Prop) (m':AId → Option Blk),((execOp ρ o).run P w = .ok (.value v) w' ∨ (v = undef ∧ (execOp ρ o).run P w = .ok .skip w')) ∧
  SimH D' m' ok (happ r.wh heap) w' ∧ Step m w m' w' ∧ Rep w' (okn ok m') D' m' false r.v v ∧ (∀ id,D' id ↔ D id ∨ id ∈ r.nw) ∧ (∀ id,D id → m' id = m id ∨ m' id = none)
section
variable {P:Program} {o:Oper} {ρ:Operand → Value} {D:AId → Prop} {m:AId → Option Blk} {ok:Nat → Prop} {heap:AId → Option AObj} {w:World}
theorem aC (hH:SimH D m ok heap w) {v:Value} {p:PVal} (rh:List AId) (hr:(execOp ρ o).run P w = .ok (.value v) w) (hp:Rep w (okn ok m) D m false p v):Out P o ρ D m ok heap w { v:=p,rh } :=
 ⟨v,w,D,m,.inl hr,hH,Step.refl m w,hp,fun id=>by simp,fun _ _=>.inl rfl⟩
theorem dt (id:AId) (x:Option AObj) (heap:AId → Option AObj):happ [(id,x)] heap = fun i=>if i = id then x else heap i:=by
 funext i
 by_cases h:i = id
 ·subst h; simp [happ,List.lookup]
 ·have:(i == id) = false:=by simpa using h
  simp [happ,List.lookup,this,h]
theorem gP (id id0:AId) (x:Option AObj) (heap:AId → Option AObj):happ [(id,x),(id0,none)] heap = fun i=>if i = id then x else if some id0 = some i then none else heap i:=by
 funext i
 by_cases h:i = id
 ·subst h; simp [happ,List.lookup]
 ·have h1:(i == id) = false:=by simpa using h
  by_cases h2:i = id0
  ·subst h2; simp [happ,List.lookup,h1,h]
  ·have h3:(i == id0) = false:=by simpa using h2
   have h4 : ¬ id0 = i:=fun e=>h2 e.symm
   simp [happ,List.lookup,h1,h,h3,h4]
theorem Out.new (hH:SimH D m ok heap w) {nx:AId} (hnx : ¬ D nx) {v:Value} {p:PVal} (obj:AObj) (ob:Obj) (tot:Nat) (rh:List AId)
  (hr:(execOp ρ o).run P w = .ok (.value v) (w.alloc ob))
  (hobj : ∀ m' D',Step m w m' (w.alloc ob) → (∀ id,D id → D' id) → (∀ id,D id → m' id = m id ∨ m' id = none) → RepObj (w.alloc ob) ok D' m' obj (.at w.heap.size tot))
  (hp : ∀ m' D',Step m w m' (w.alloc ob) → (∀ id,D id → D' id) → (∀ id,D id → m' id = m id ∨ m' id = none) → D' nx → m' nx = some (.at w.heap.size tot) → Rep (w.alloc ob) (okn ok m') D' m' false p v) :
  Out P o ρ D m ok heap w { v:=p,rh,wh:=[(nx,some obj)],nw:=[nx] }:=by
 have hk : ∀ b,b < w.heap.size → (w.alloc ob).heap[b]? = w.heap[b]?:=fun b hb=>heap_alloc_old w ob hb
 have hm1 : ∀ id,D id → (fun i=>if i = nx then some (Blk.at w.heap.size tot) else if (none:Option AId) = some i then none else m i) id = m id ∨ (fun i=>if i = nx then some (Blk.at w.heap.size tot) else if (none:Option AId) = some i then none else m i) id = none:=by
  intro id hd
  by_cases h:id = nx
  ·subst h; exact absurd hd hnx
  ·left; simp [h]
 obtain ⟨h1,h2,h3⟩:=hH.reloc (w':=w.alloc ob) none nx (.at w.heap.size tot) obj rfl rfl rfl (by simp) (fun b hb _=>hk b hb) (.inr hnx)
  (fun b t e=>by injection e with e _; subst e; exact ⟨by simp,.inl (Nat.le_refl _)⟩) (fun hst=>hobj _ _ hst (fun _=>.inl) hm1)
 refine ⟨v,w.alloc ob,(fun i=>D i ∨ i = nx),_,.inl hr,?_,h2,hp _ _ h2 (fun _=>.inl) h3 (.inr rfl) (by simp),fun id=>by simp,h3⟩
 rw [dt]
 simpa using h1
theorem exec_mov {x:Operand} (h:o.op = .move x ∨ o.op = .assign x):(execOp ρ o).run P w = .ok (.value (ρ x)) w:=by
 rcases h with h | h <;> unfold execOp <;> simp only [h] <;> rfl
theorem exec_pick {c a b:Operand} {t:Bool} (h:o.op = .pick c a b) (hc:ρ c = .bool t):(execOp ρ o).run P w = .ok (.value (if t then ρ a else ρ b)) w:=by
 unfold execOp
 simp only [h,hc]
 simp [asBool]
theorem exec_alloc {e:TypeId} {i:TypeInfo} {z:Value} (h:o.op = .alloc e) (hi:P.info? e = some i) (hz:i.zero = some z) :
  (execOp ρ o).run P w = .ok (.value (.pointer (some ⟨w.heap.size,0,none⟩))) (w.alloc (.cells z.cells e)):=by
 unfold execOp
 simp only [h]
 simp [Instr.alloc,zeroValue,typeInfo,hi,hz,newVar,newRow]
theorem exec_box {e:TypeId} {x:Operand} (h:o.op = .box e x) :
  (execOp ρ o).run P w = .ok (.value (.pointer (some ⟨w.heap.size,0,none⟩))) (w.alloc (.cells (ρ x).cells e)):=by
 unfold execOp
 simp only [h]
 simp [Instr.box,newVar,newRow]
theorem fD {t:TypeId} {d:TypeDesc} (hd:P.underlying t = some d):(isAgg t).run P w = .ok (isAggD d) w:=by
 unfold isAgg
 simp only [Sem.run_bind,run_underlying hd,Result.andThen_ok]
 cases d <;> rfl
theorem aQ {t:TypeId} {i:TypeInfo} (hi:P.info? t = some i):(sizeOf t).run P w = .ok i.size w:=by
 simp [sizeOf,typeInfo,hi]
theorem fW {t:TypeId} {d:TypeDesc} {i:TypeInfo} (hd:P.underlying t = some d) (hi:P.info? t = some i) (ad:Addr) (vs:List Value) (hl:vs.length = if isAggD d then i.size else 1)
  (hc : ∀ j u,vs[j]? = some u → w.cell? (ad.add j) = some u) :
  (loadVar t ad).run P w = .ok (if isAggD d then .agg vs.toArray else vs.headD undef) w:=by
 unfold loadVar
 simp only [Sem.run_bind,fD hd,Result.andThen_ok]
 cases hg:isAggD d with
 | true =>
  simp only [hg,if_true] at hl
  simp only [if_true,Sem.run_bind,aQ hi,Result.andThen_ok,← hl,run_loadCells_list w ad vs hc]
  rfl
 | false =>
  simp only [hg,Bool.false_eq_true,if_false] at hl
  match vs,hl with
  | [u],_ =>
   have:=hc 0 u rfl
   have ha:ad.add 0 = ad:=by simp [Addr.add]
   rw [ha] at this
   simp [this]
theorem bW {α:Type} {l:List α} {n q:Nat} {u:α} (h:(l.take n)[q]? = some u):l[q]? = some u:=by
 rw [List.getElem?_take] at h
 split at h
 ·exact h
 ·cases h
theorem dq {c:Bool} {agg:Bool} {size:Nat} {cs:List PVal} {vs:List Value} {off:Nat} {p:PVal} (h:Reps w ok D m c cs vs) (h1 : ∀ v ∈ vs,v.oneCell' = true)
  (hk:peek (if agg then some size else none) cs off = some p) :
  ((vs.drop off).take (if agg then size else 1)).length = (if agg then size else 1) ∧
   Rep w ok D m c p (if agg then .agg ((vs.drop off).take (if agg then size else 1)).toArray else ((vs.drop off).take (if agg then size else 1)).headD undef):=by
 cases agg with
 | true =>
  simp only [peek,if_true] at hk ⊢
  split at hk
  ·rename_i hle
   injection hk with hk
   subst hk
   have hl:off + size ≤ vs.length:=by rw [← h.1]; exact hle
   refine ⟨by simp; omega,?_⟩
   have hr:=(h.drop off).take size
   exact Rep.agg hr.1 (fun v hv=>h1 v (List.mem_of_mem_drop (List.mem_of_mem_take hv))) hr.2
  ·cases hk
 | false =>
  simp only [peek,Bool.false_eq_true,if_false] at hk ⊢
  have hlt:off < cs.length:=by
   rcases Nat.lt_or_ge off cs.length with h' | h'
   ·exact h'
   ·rw [List.getElem?_eq_none h'] at hk; cases hk
  have hlt':off < vs.length:=by rw [← h.1]; exact hlt
  have hd:(vs.drop off).take 1 = [vs[off]]:=by rw [List.drop_eq_getElem_cons hlt']; rfl
  rw [hd]
  exact ⟨rfl,h.2 off p _ hk (List.getElem?_eq_getElem hlt')⟩
theorem box_reps {cs:List PVal} {b t:Nat} (h:RepObj w ok D m (.box cs) (.at b t)) : ∃ (vs:Array Value) (ty:TypeId),w.heap[b]? = some (.cells vs ty (0,0)) ∧ Reps w (okn ok m) D m false cs vs.toList ∧ ∀ v ∈ vs.toList,v.oneCell' = true:=by
 obtain ⟨vs,ty,h1,h2,h3⟩:=h
 refine ⟨vs,ty,h1,⟨by simp [h2],fun i p v hp hv=>?_⟩,fun v hv=>?_⟩
 ·obtain ⟨v',h4,_,h6⟩:=h3 i p hp
  rw [Array.getElem?_toList,h4] at hv
  injection hv with hv
  subst hv
  exact h6
 ·obtain ⟨i,hi,rfl⟩:=List.mem_iff_getElem.1 hv
  have hi':i < cs.length:=by rw [← h2]; simpa using hi
  obtain ⟨v',h4,h5,_⟩:=h3 i _ (List.getElem?_eq_getElem hi')
  have:vs.toList[i]? = some v':=by rw [Array.getElem?_toList]; exact h4
  rw [List.getElem?_eq_getElem hi] at this
  injection this with this
  rw [this]; exact h5
theorem dm {sz ty:Nat} {es:List (List PVal)} {b tot i:Nat} (h:RepObj w ok D m (.row sz ty es) (.at b tot)) (hi:i < es.length) :
  ∃ (vs:Array Value),w.heap[b]? = some (.cells vs ty (0,0)) ∧ Reps w (okn ok m) D m true (es.getD i []) ((vs.toList.drop (i * sz)).take sz) ∧ (∀ v ∈ (vs.toList.drop (i * sz)).take sz,v.oneCell' = true) ∧ i * sz + sz ≤ vs.size ∧ (es.getD i []).length = sz:=by
 obtain ⟨vs,h1,h2,h3,h3',h4,h5,h6⟩:=h
 have he:es[i]? = some (es.getD i []):=by simp [List.getD,List.getElem?_eq_getElem hi]
 have hl:(es.getD i []).length = sz:=h5 _ (List.mem_of_getElem? he)
 have hb:i * sz + sz ≤ vs.size:=by
  rw [h2]
  have:(i + 1) * sz ≤ tot * sz:=Nat.mul_le_mul_right _ (by omega)
  rw [Nat.succ_mul] at this
  exact this
 have hlen:((vs.toList.drop (i * sz)).take sz).length = sz:=by simp; omega
 have hat : ∀ j,j < sz → ((vs.toList.drop (i * sz)).take sz)[j]? = vs[i * sz + j]?:=by
  intro j hj
  rw [List.getElem?_take,if_pos hj,List.getElem?_drop,Array.getElem?_toList]
 refine ⟨vs,h1,⟨by rw [hlen,hl],fun j p v hp hv=>?_⟩,fun v hv=>?_,hb,hl⟩
 ·have hj:j < sz:=by
   rcases Nat.lt_or_ge j sz with h' | h'
   ·exact h'
   ·rw [List.getElem?_eq_none (by rw [hlen]; exact h')] at hv; cases hv
  obtain ⟨v',h7,_,h9⟩:=h6 i j _ p he hp
  rw [hat j hj,h7] at hv
  injection hv with hv
  subst hv
  exact h9
 ·obtain ⟨j,hj,rfl⟩:=List.mem_iff_getElem.1 hv
  have hj':j < sz:=by rw [hlen] at hj; exact hj
  obtain ⟨v',h7,h8,_⟩:=h6 i j _ _ he (List.getElem?_eq_getElem (by rw [hl]; exact hj'))
  have:=hat j hj'
  rw [List.getElem?_eq_getElem hj,h7] at this
  injection this with this
  rw [this]; exact h8
theorem rptr_reps {c:Bool} {cs:List PVal} {v:Value} (h:Rep w ok D m c (.rptr cs) v) :
  ∃ (ad:Addr) (vs:List Value),v = .pointer (some ad) ∧ Reps w ok D m true cs vs ∧ (∀ u ∈ vs,u.oneCell' = true) ∧ ∀ j u,vs[j]? = some u → w.cell? (ad.add j) = some u:=by
 cases h with
 | @rptr _ _ ad vs hcell h =>
  refine ⟨ad,(List.range cs.length).map vs,rfl,⟨by simp,fun i p u hp hu=>?_⟩,fun u hu=>?_,fun j u hu=>?_⟩
  ·have hi:i < cs.length:=(List.getElem?_eq_some_iff.1 hp).1
   rw [List.getElem?_map,List.getElem?_range hi] at hu
   simp at hu
   subst hu
   exact h i p hp
  ·obtain ⟨j,hj,rfl⟩:=List.mem_map.1 hu
   exact (hcell j _ (List.getElem?_eq_getElem (List.mem_range.1 hj))).2.2
  ·have hj:j < cs.length:=by
    rcases Nat.lt_or_ge j cs.length with h' | h'
    ·exact h'
    ·rw [List.getElem?_eq_none (by simpa using h')] at hu; cases hu
   rw [List.getElem?_map,List.getElem?_range hj] at hu
   simp at hu
   subst hu
   exact (hcell j _ (List.getElem?_eq_getElem hj)).2.1
theorem ro_elem {c:Bool} {sz:Nat} {es:List (List PVal)} {v:Value} (h:Rep w ok D m c (.ro sz es) v) :
  ∃ A n cap,v = .slice A n cap ∧ n = es.length ∧ n ≤ cap ∧ cap ≤ maxLen ∧ (∀ e ∈ es,e.length = sz) ∧ ∀ i,i < es.length → ∃ ad,A = some ad ∧ Rep w ok D m true (.rptr (es.getD i [])) (.pointer (some (ad.add (i * sz)))):=by
 cases h with
 | @ro _ _ _ A n cap ad vs hn hc hm hs hA hcell h =>
  refine ⟨A,n,cap,rfl,hn.symm,hc,hm,hs,fun i hi=>⟨ad,hA (by omega),?_⟩⟩
  have he:es[i]? = some (es.getD i []):=by simp [List.getD,List.getElem?_eq_getElem hi]
  refine Rep.rptr (vs i) (fun j p hp=>?_) (fun j p hp=>h i j _ p he hp)
  obtain ⟨h1,h2,h3⟩:=hcell i j _ p he hp
  refine ⟨by rw [bp]; exact h1,?_,h3⟩
  have:(ad.add (i * sz)).add j = ad.add (i * sz + j):=by
   unfold Addr.add
   by_cases h1:i * sz = 0 <;> by_cases h2:j = 0 <;> simp_all [Nat.add_assoc]
  rw [this]; exact h2
theorem ib (ad:Addr) (i j:Nat):(ad.add i).add j = ad.add (i + j):=by
 unfold Addr.add
 by_cases h1:i = 0 <;> by_cases h2:j = 0 <;> simp_all [Nat.add_assoc]
theorem rptr_drop {c:Bool} {cs:List PVal} {ad:Addr} (h:Rep w ok D m c (.rptr cs) (.pointer (some ad))) (off:Nat):Rep w ok D m c (.rptr (cs.drop off)) (.pointer (some (ad.add off))):=by
 cases h with
 | rptr vs hcell h =>
  refine Rep.rptr (fun j=>vs (off + j)) (fun j p hp=>?_) (fun j p hp=>h (off + j) p (by rwa [List.getElem?_drop] at hp))
  rw [List.getElem?_drop] at hp
  obtain ⟨h1,h2,h3⟩:=hcell _ p hp
  exact ⟨by rw [bp]; exact h1,by rw [ib]; exact h2,h3⟩
theorem dO {w:World} {b:Nat} {vs:Array Value} {ty:TypeId} {f:Nat × Nat} (h:w.heap[b]? = some (.cells vs ty f)) (i:Nat):w.cell? ⟨b,i,none⟩ = vs[i]?:=by
 simp [World.cell?,h]
theorem bx (b o j:Nat):(⟨b,o,none⟩ : Addr).add j = ⟨b,o + j,none⟩:=by
 unfold Addr.add
 split
 ·rename_i h; subst h; rfl
 ·rfl
theorem eh {w:World} {b:Nat} {vs:Array Value} {ty:TypeId} {f:Nat × Nat} (h:w.heap[b]? = some (.cells vs ty f)) (o n:Nat) :
  ∀ (j:Nat) (u:Value),((vs.toList.drop o).take n)[j]? = some u → w.cell? ((⟨b,o,none⟩ : Addr).add j) = some u:=by
 intro j u hu
 rw [List.getElem?_take] at hu
 split at hu
 ·rw [List.getElem?_drop,Array.getElem?_toList] at hu
  rw [bx,dO h]
  exact hu
 ·cases hu
theorem fO {t:TypeId} {x:Operand} {d:TypeDesc} {i:TypeInfo} (h:o.op = .load t x) (hd:P.underlying t = some d) (hi:P.info? t = some i) {ad:Addr} (hx:ρ x = .pointer (some ad))
  (vs:List Value) (hl:vs.length = if isAggD d then i.size else 1) (hc : ∀ j u,vs[j]? = some u → w.cell? (ad.add j) = some u) :
  (execOp ρ o).run P w = .ok (.value (if isAggD d then .agg vs.toArray else vs.headD undef)) w:=by
 unfold execOp
 simp only [h,hx]
 simp [Instr.loadAt,Instr.sureAddr,fW hd hi ad vs hl hc]
end
section
variable {P:Program} {o:Oper} {ρ:Operand → Value} {D:AId → Prop} {m:AId → Option Blk} {ok:Nat → Prop} {heap:AId → Option AObj} {w:World} {nx:AId} {r:R}
theorem dc {t:TypeId} {k:Option Nat} (h:kindOf P t = some k) : ∃ d i,P.underlying t = some d ∧ P.info? t = some i ∧ k = if isAggD d then some i.size else none:=by
 unfold kindOf at h
 split at h
 ·rename_i d i h1 h2
  injection h with h
  exact ⟨d,i,h1,h2,h.symm⟩
 ·cases h
theorem core_load {t:TypeId} {x:Operand} {k:Option Nat} {p:PVal} (h:o.op = .load t x) (hk:kindOf P t = some k) (hH:SimH D m ok heap w) (hx:Rep w (okn ok m) D m false p (ρ x))
  (hc:core (.load k) [p] heap nx = some r):Out P o ρ D m ok heap w r:=by
 obtain ⟨d,i,hd,hi,rfl⟩:=dc hk
 cases p <;> simp only [core] at hc
 case ptr id off =>
  cases ho:heap id with
  | none=>simp [ho] at hc
  | some ob =>
   cases ob with
   | box cs =>
    simp only [ho] at hc
    obtain ⟨v,hv,rfl⟩:=Option.map_eq_some_iff.1 hc
    obtain ⟨B,hB,hob⟩:=hH.obj id _ ho
    cases B with
    | nil=>exact hob.elim
    | «at» b tt =>
     obtain ⟨vs,ty,h1,h2,h3⟩:=box_reps hob
     cases hx with
     | ptr _ _ hp =>
      obtain ⟨h4,h5⟩:=dq h2 h3 hv
      exact aC hH _ (fO h hd hi (hp b tt hB) _ h4 (eh h1 _ _)) h5
   | row=>simp [ho] at hc
   | mp=>simp [ho] at hc
   | full=>simp [ho] at hc
 case eptr id sz j off =>
  cases ho:heap id with
  | none=>simp [ho] at hc
  | some ob =>
   cases ob with
   | row sz' ty es =>
    simp only [ho] at hc
    split at hc
    ·rename_i hcond
     obtain ⟨hsz,hj⟩:=hcond
     subst hsz
     obtain ⟨v,hv,rfl⟩:=Option.map_eq_some_iff.1 hc
     obtain ⟨B,hB,hob⟩:=hH.obj id _ ho
     cases B with
     | nil=>obtain ⟨rfl,_⟩:=hob; simp at hj
     | «at» b tt =>
      obtain ⟨vs,h1,h2,h3,hb,hl⟩:=dm hob hj
      cases hx with
      | eptr _ _ hp =>
       obtain ⟨h4,h5⟩:=dq h2 h3 hv
       refine aC hH _ (fO h hd hi (hp b tt hB) _ h4 (fun q u hu=>?_)) h5.opened
       have hq:q < (if isAggD d = true then i.size else 1):=by
        rcases Nat.lt_or_ge q (if isAggD d = true then i.size else 1) with h' | h'
        ·exact h'
        ·rw [List.getElem?_eq_none (by rw [h4]; exact h')] at hu; cases hu
       rw [List.getElem?_take,if_pos hq,List.getElem?_drop,List.getElem?_take] at hu
       split at hu
       ·rw [List.getElem?_drop,Array.getElem?_toList] at hu
        rw [bx,dO h1,Nat.add_assoc]
        exact hu
       ·cases hu
    ·cases hc
   | box=>simp [ho] at hc
   | mp=>simp [ho] at hc
   | full=>simp [ho] at hc
 case rptr cs =>
  obtain ⟨v,hv,rfl⟩:=Option.map_eq_some_iff.1 hc
  obtain ⟨ad,vs,he,h2,h3,h4⟩:=rptr_reps hx
  obtain ⟨h5,h6⟩:=dq h2 h3 hv
  rw [he] at hx
  refine aC hH _ (fO h hd hi he _ h5 (fun q u hu=>?_)) h6.opened
  have hu:=bW hu
  rw [List.drop_zero] at hu
  exact h4 q u hu
 all_goals cases hc
theorem core_box {e:TypeId} {x:Operand} {p:PVal} (h:o.op = .box e x) (hH:SimH D m ok heap w) (hnx : ¬ D nx) (hx:Rep w (okn ok m) D m false p (ρ x))
  (hc:core .box [p] heap nx = some r):Out P o ρ D m ok heap w r:=by
 simp only [core] at hc
 cases hcs:p.cells with
 | none=>simp [hcs] at hc
 | some cs =>
  simp only [hcs,Option.some.injEq] at hc
  subst hc
  obtain ⟨h1,h2⟩:=cz hx hcs
  refine Out.new hH hnx (.box cs) _ 0 _ (exec_box h) (fun m' D' hst hD hm=>?_) (fun m' D' hst hD hm hd hn=>?_)
  ·refine ⟨(ρ x).cells,e,heap_alloc_new w _,by simpa using h2.1.symm,fun i q hq=>?_⟩
   have hi:i < (ρ x).cells.toList.length:=by rw [← h2.1]; exact (List.getElem?_eq_some_iff.1 hq).1
   exact ⟨(ρ x).cells.toList[i],by rw [← Array.getElem?_toList]; exact List.getElem?_eq_getElem hi,h1 _ (List.getElem_mem hi),(h2.2 i q _ hq (List.getElem?_eq_getElem hi)).step hst hD hm⟩
  ·exact .ptr hd rfl (fun b t e'=>by rw [hn] at e'; injection e' with e'; injection e' with e1 e2; subst e1; rfl)
theorem core_alloc {e:TypeId} {i:TypeInfo} {z:Value} {zs:List PVal} (h:o.op = .alloc e) (hi:P.info? e = some i) (hz:i.zero = some z) (hzs:zeroC z = some zs) (hH:SimH D m ok heap w) (hnx : ¬ D nx)
  (hc:core (.alloc zs) [] heap nx = some r):Out P o ρ D m ok heap w r:=by
 simp only [core,Option.some.injEq] at hc
 subst hc
 refine Out.new hH hnx (.box zs) _ 0 _ (exec_alloc h hi hz) (fun m' D' hst hD hm=>?_) (fun m' D' hst hD hm hd hn=>?_)
 ·obtain ⟨h1,h2⟩:=cO (w:=w.alloc (.cells z.cells e)) (ok:=okn ok m') (D:=D') (m:=m') (c:=false) hzs
  refine ⟨z.cells,e,heap_alloc_new w _,by simpa using h2.1.symm,fun i q hq=>?_⟩
  have hi:i < z.cells.toList.length:=by rw [← h2.1]; exact (List.getElem?_eq_some_iff.1 hq).1
  exact ⟨z.cells.toList[i],by rw [← Array.getElem?_toList]; exact List.getElem?_eq_getElem hi,h1 _ (List.getElem_mem hi),h2.2 i q _ hq (List.getElem?_eq_getElem hi)⟩
 ·exact .ptr hd rfl (fun b t e'=>by rw [hn] at e'; injection e' with e'; injection e' with e1 e2; subst e1; rfl)
theorem bF : ∀ (us:List Value) (w:World) (b o:Nat) (vs:Array Value) (ty:TypeId) (i:Nat),w.heap[b]? = some (.cells vs ty (0,0)) → o + i + us.length ≤ vs.size → (∀ u ∈ us,u.oneCell' = true) →
  ∃ (w':World) (vs':Array Value),(storeCells ⟨b,o,none⟩ us i).run P w = .ok () w' ∧ w'.heap[b]? = some (.cells vs' ty (0,0)) ∧ vs'.size = vs.size ∧
   (∀ j,vs'.toList[j]? = if o + i ≤ j ∧ j < o + i + us.length then us[j - (o + i)]? else vs.toList[j]?) ∧ w'.os = w.os ∧ w'.tape = w.tape ∧ w'.output = w.output ∧ w'.heap.size = w.heap.size ∧ ∀ k,k ≠ b → w'.heap[k]? = w.heap[k]?
 | [],w,b,o,vs,ty,i,hb,hl,h1=>by
  refine ⟨w,vs,by simp [storeCells],hb,rfl,fun j=>?_,rfl,rfl,rfl,rfl,fun k _=>rfl⟩
  have : ¬ (o + i ≤ j ∧ j < o + i + ([]:List Value).length):=by
   rintro ⟨p1,p2⟩
   simp only [List.length_nil] at p2
   omega
  rw [if_neg this]
 | u :: us,w,b,o,vs,ty,i,hb,hl,h1=>by
  have hi:o + i < vs.size:=by simp at hl; omega
  have hc:w.cell? ((⟨b,o,none⟩ : Addr).add i) = some vs[o + i]:=by rw [bx,dO hb]; exact Array.getElem?_eq_getElem hi
  have hf:w.frozen? ((⟨b,o,none⟩ : Addr).add i) = false:=by rw [bx]; simp [World.frozen?,hb]
  have hs:(w.setCell ((⟨b,o,none⟩ : Addr).add i) u).heap[b]? = some (.cells (vs.setIfInBounds (o + i) u) ty (0,0)):=by
   rw [bx]
   simp [World.setCell,Array.getElem?_modify,hb]
  obtain ⟨w',vs',hr,hb',hz,hat,h5,h6,h7,h8,h9⟩:=bF us (w.setCell ((⟨b,o,none⟩ : Addr).add i) u) b o (vs.setIfInBounds (o + i) u) ty (i + 1) hs (by simp at hl ⊢; omega) (fun v hv=>h1 v (List.mem_cons_of_mem _ hv))
  refine ⟨w',vs',?_,hb',by simpa using hz,fun j=>?_,h5,h6,h7,by simpa using h8,fun k hk=>(h9 k hk).trans ?_⟩
  ·unfold storeCells
   simp only [Sem.run_bind]
   rw [run_store P w _ u .plain (h1 u List.mem_cons_self),hc]
   simp only [hf,Bool.false_eq_true,if_false,Result.andThen_ok]
   exact hr
  ·rw [hat j]
   by_cases hj:j = o + i
   ·subst hj
    rw [if_neg (by omega),if_pos (by simp)]
    simp [hi]
   ·by_cases hj2:o + (i + 1) ≤ j ∧ j < o + (i + 1) + us.length
    ·rw [if_pos hj2,if_pos (by simp; omega)]
     have:j - (o + i) = (j - (o + (i + 1))) + 1:=by omega
     rw [this]; simp
    ·rw [if_neg hj2,if_neg (by simp; omega)]
     simp only [Array.toList_setIfInBounds]
     rw [List.getElem?_set_ne (by omega)]
  ·rw [bx]
   simp [World.setCell,Array.getElem?_modify]
   intro e
   exact absurd e.symm hk
theorem gS {t:TypeId} {x v:Operand} {i:TypeInfo} (h:o.op = .store t x v) (hi:P.info? t = some i) {b off:Nat} (hx:ρ x = .pointer (some ⟨b,off,none⟩)) {vs:Array Value} {ty:TypeId}
  (hb:w.heap[b]? = some (.cells vs ty (0,0))) (hl:(ρ v).cells.size = i.size) (hfit:off + i.size ≤ vs.size) (h1 : ∀ u ∈ (ρ v).cells.toList,u.oneCell' = true) :
  ∃ (w':World) (vs':Array Value),(execOp ρ o).run P w = .ok .skip w' ∧ w'.heap[b]? = some (.cells vs' ty (0,0)) ∧ vs'.size = vs.size ∧
   (∀ j,vs'.toList[j]? = if off ≤ j ∧ j < off + i.size then (ρ v).cells.toList[j - off]? else vs.toList[j]?) ∧ w'.os = w.os ∧ w'.tape = w.tape ∧ w'.output = w.output ∧ w'.heap.size = w.heap.size ∧ ∀ k,k ≠ b → w'.heap[k]? = w.heap[k]?:=by
 obtain ⟨w',vs',hr,h2,h3,h4,h5⟩:=bF (P:=P) (ρ v).cells.toList w b off vs ty 0 hb (by simp [hl]; omega) h1
 refine ⟨w',vs',?_,h2,h3,fun j=>?_,h5⟩
 ·unfold execOp
  simp only [h,hx]
  simp [Instr.storeAt,Instr.sureAddr,storeVar,aQ hi,hl,hr]
 ·have:=h4 j
  simpa [hl] using this
theorem gF (cs vs:List PVal) (off j:Nat) (hfit:off + vs.length ≤ cs.length):(splice cs off vs)[j]? = if off ≤ j ∧ j < off + vs.length then vs[j - off]? else cs[j]?:=by
 unfold splice
 split
 ·rename_i v
  rw [List.getElem?_set]
  by_cases hj:off = j
  ·subst hj
   have hlt:off < cs.length:=by simp at hfit; omega
   simp [hlt]
  ·rw [if_neg hj,if_neg (by simp; omega)]
 ·by_cases h1:j < off
  ·rw [if_neg (by omega),List.append_assoc,List.getElem?_append_left (by simp; omega),List.getElem?_take,if_pos h1]
  ·by_cases h2:j < off + vs.length
   ·rw [if_pos ⟨by omega,h2⟩,List.append_assoc,List.getElem?_append_right (by simp; omega),List.getElem?_append_left (by simp; omega)]
    congr 1
    simp
    omega
   ·rw [if_neg (by omega),List.getElem?_append_right (by simp; omega),List.getElem?_drop]
    congr 1
    simp
    omega
theorem eD (cs vs:List PVal) (off:Nat) (hfit:off + vs.length ≤ cs.length):(splice cs off vs).length = cs.length:=by
 unfold splice
 split
 ·simp
 ·simp; omega
theorem dT (hH:SimH D m ok heap w) {id:AId} {B:Blk} {b tot:Nat} (hB:m id = some (.at b tot)) (obj:AObj) (rh:List AId) {w':World} (hr:(execOp ρ o).run P w = .ok .skip w')
  (hos:w'.os = w.os) (ht:w'.tape = w.tape) (hou:w'.output = w.output) (hsz:w'.heap.size = w.heap.size) (hk : ∀ k,k ≠ b → w'.heap[k]? = w.heap[k]?)
  (hobj:Step m w m w' → RepObj w' ok D m obj (.at b tot)) :
  Out P o ρ D m ok heap w { v:=.hole,rh,wh:=[(id,some obj)] }:=by
 have hm':(fun i=>if i = id then some (Blk.at b tot) else if some id = some i then none else m i) = m:=by
  funext i
  by_cases e:i = id
  ·subst e; simp [hB]
  ·have : ¬ id = i:=fun e'=>e e'.symm
   simp [e,this]
 have hD':(fun i=>D i ∨ i = id) = D:=by
  funext i
  have:i = id → D i:=fun e=>by subst e; exact hH.dom _ _ hB
  exact propext ⟨fun h=>h.elim (fun h=>h) this,.inl⟩
 obtain ⟨h1,h2,h3⟩:=hH.reloc (w':=w') (some id) id (.at b tot) obj hos ht hou (by omega)
  (fun k hk' hn=>hk k (fun e=>hn id tot rfl (by rw [e]; exact hB))) (.inl ⟨rfl,hB⟩)
  (fun b' t' e=>by injection e with e1 e2; subst e1; exact ⟨by rw [hsz]; exact hH.lt _ _ _ hB,.inr ⟨id,tot,rfl,hB⟩⟩)
  (fun hst=>by rw [hm'] at hst ⊢; rw [hD']; exact hobj hst)
 rw [hm'] at h1 h2
 rw [hD'] at h1
 refine ⟨undef,w',D,m,.inr ⟨rfl,hr⟩,?_,h2,.hole,fun i=>by simp,fun _ _=>.inl rfl⟩
 rw [dt]
 have:(fun i=>if i = id then some obj else heap i) = (fun i=>if i = id then some obj else if some id = some i then none else heap i):=by
  funext i
  by_cases e:i = id
  ·simp [e]
  ·have : ¬ id = i:=fun e'=>e e'.symm
   simp [e,this]
 rw [this]
 exact h1
theorem core_store {t:TypeId} {x v:Operand} {i:TypeInfo} {p q:PVal} (h:o.op = .store t x v) (hi:P.info? t = some i) (hH:SimH D m ok heap w) (hx:Rep w (okn ok m) D m false p (ρ x)) (hv:Rep w (okn ok m) D m false q (ρ v))
  (hc:core (.store i.size) [p,q] heap nx = some r):Out P o ρ D m ok heap w r:=by
 cases p <;> simp only [core] at hc
 case ptr id off =>
  cases ho:heap id with
  | none=>simp [ho] at hc
  | some ob =>
   cases ob with
   | box cs =>
    cases hq:q.cells with
    | none=>simp [ho,hq] at hc
    | some us =>
     simp only [ho,hq] at hc
     split at hc
     ·rename_i hcond
      obtain ⟨hul,hfit⟩:=hcond
      injection hc with hc
      subst hc
      obtain ⟨B,hB,hob⟩:=hH.obj id _ ho
      cases B with
      | nil=>exact hob.elim
      | «at» b tt =>
       obtain ⟨h1,h2⟩:=cz hv hq
       obtain ⟨vs,ty,g1,g2,g3⟩:=hob
       cases hx with
       | ptr _ _ hp =>
        obtain ⟨w',vs',e1,e2,e3,e4,e5,e6,e7,e8,e9⟩:=gS (P:=P) (ρ:=ρ) h hi (hp b tt hB) g1 (by have:=h2.1; simp at this; omega) (by rw [g2]; exact hfit) h1
        refine dT hH (B:=.at b tt) hB _ _ e1 e5 e6 e7 e8 e9 (fun hst=>⟨vs',ty,e2,by rw [e3,g2,eD _ _ _ (by omega)],fun j pj hj=>?_⟩)
        rw [gF _ _ _ _ (by omega)] at hj
        have e4j:=e4 j
        rw [hul] at hj
        by_cases hin:off ≤ j ∧ j < off + i.size
        ·rw [if_pos hin] at hj e4j
         have hlt:j - off < (ρ v).cells.toList.length:=by rw [← h2.1]; exact (List.getElem?_eq_some_iff.1 hj).1
         rw [List.getElem?_eq_getElem hlt] at e4j
         exact ⟨_,by rw [← Array.getElem?_toList]; exact e4j,h1 _ (List.getElem_mem hlt),(h2.2 _ _ _ hj (List.getElem?_eq_getElem hlt)).step hst (fun _ hd=>hd) (fun _ _=>.inl rfl)⟩
        ·rw [if_neg hin] at hj e4j
         obtain ⟨u,k1,k2,k3⟩:=g3 j pj hj
         exact ⟨u,by rw [← Array.getElem?_toList,e4j,Array.getElem?_toList]; exact k1,k2,k3.step hst (fun _ hd=>hd) (fun _ _=>.inl rfl)⟩
     ·cases hc
   | row=>simp [ho] at hc
   | mp=>simp [ho] at hc
   | full=>simp [ho] at hc
 case eptr id sz j off =>
  cases ho:heap id with
  | none=>simp [ho] at hc
  | some ob =>
   cases ob with
   | row sz' ty es =>
    cases hq:q.cells with
    | none=>simp [ho,hq] at hc
    | some us =>
     simp only [ho,hq] at hc
     split at hc
     ·rename_i hcond
      obtain ⟨hsz,hj,hul,hfit,hcl⟩:=hcond
      subst hsz
      injection hc with hc
      subst hc
      obtain ⟨B,hB,hob⟩:=hH.obj id _ ho
      cases B with
      | nil=>obtain ⟨rfl,_⟩:=hob; simp at hj
      | «at» b tt =>
       obtain ⟨h1,h2⟩:=cz (hv.close hcl) hq
       obtain ⟨vs0,hh,_,_,hbd,hl⟩:=dm hob hj
       obtain ⟨vs,g1,g2,g3,g3',g4,g5,g6⟩:=hob
       have hvs0:vs0.size = vs.size:=by rw [g1] at hh; injection hh with hh; injection hh with hh; rw [← hh]
       cases hx with
       | eptr _ _ hp =>
        obtain ⟨w',vs',e1,e2,e3,e4,e5,e6,e7,e8,e9⟩:=gS (P:=P) (ρ:=ρ) h hi (hp b tt hB) g1 (by have:=h2.1; simp at this; omega) (by omega) h1
        refine dT hH (B:=.at b tt) hB _ _ e1 e5 e6 e7 e8 e9 (fun hst=>⟨vs',e2,by rw [e3,g2],by simpa using g3,g3',g4,fun e he=>?_,fun i' j' e pj he hp'=>?_⟩)
        ·rcases List.mem_or_eq_of_mem_set he with he | rfl
         ·exact g5 e he
         ·rw [eD _ _ _ (by omega)]; exact hl
        ·have e4j:=e4 (i' * sz' + j')
         rw [List.getElem?_set] at he
         by_cases hij:j = i'
         ·subst hij
          rw [if_pos rfl,if_pos hj] at he
          injection he with he
          subst he
          rw [gF _ _ _ _ (by omega),hul] at hp'
          by_cases hin:off ≤ j' ∧ j' < off + i.size
          ·rw [if_pos hin] at hp'
           rw [if_pos (by omega)] at e4j
           have hlt:j' - off < (ρ v).cells.toList.length:=by rw [← h2.1]; exact (List.getElem?_eq_some_iff.1 hp').1
           rw [show j * sz' + j' - (j * sz' + off) = j' - off by omega,List.getElem?_eq_getElem hlt] at e4j
           exact ⟨_,by rw [← Array.getElem?_toList]; exact e4j,h1 _ (List.getElem_mem hlt),(h2.2 _ _ _ hp' (List.getElem?_eq_getElem hlt)).step hst (fun _ hd=>hd) (fun _ _=>.inl rfl)⟩
          ·rw [if_neg hin] at hp'
           rw [if_neg (by omega)] at e4j
           have he':es[j]? = some (es.getD j []):=by simp [List.getD,List.getElem?_eq_getElem hj]
           obtain ⟨u,k1,k2,k3⟩:=g6 j j' _ pj he' hp'
           exact ⟨u,by rw [← Array.getElem?_toList,e4j,Array.getElem?_toList]; exact k1,k2,k3.step hst (fun _ hd=>hd) (fun _ _=>.inl rfl)⟩
         ·rw [if_neg hij] at he
          obtain ⟨u,k1,k2,k3⟩:=g6 i' j' _ pj he hp'
          have hj':j' < sz':=by rw [← g5 e (List.mem_of_getElem? he)]; exact (List.getElem?_eq_some_iff.1 hp').1
          have hne : ¬ (j * sz' + off ≤ i' * sz' + j' ∧ i' * sz' + j' < j * sz' + off + i.size):=by
           rintro ⟨q1,q2⟩
           rcases Nat.lt_or_ge j i' with hlt | hge
           ·have:=Nat.mul_le_mul_right sz' (show j + 1 ≤ i' from hlt)
            rw [Nat.succ_mul] at this
            omega
           ·have:=Nat.mul_le_mul_right sz' (show i' + 1 ≤ j by omega)
            rw [Nat.succ_mul] at this
            omega
          rw [if_neg hne] at e4j
          exact ⟨u,by rw [← Array.getElem?_toList,e4j,Array.getElem?_toList]; exact k1,k2,k3.step hst (fun _ hd=>hd) (fun _ _=>.inl rfl)⟩
     ·cases hc
   | box=>simp [ho] at hc
   | mp=>simp [ho] at hc
   | full=>simp [ho] at hc
 all_goals (cases hc)
end
section
variable {P:Program} {o:Oper} {ρ:Operand → Value} {D:AId → Prop} {m:AId → Option Blk} {ok:Nat → Prop} {heap:AId → Option AObj} {w:World} {nx:AId} {r:R}
def leafVal:PVal → Value
 | .int k n=>.int k n
 | .bool b=>.bool b
 | .str s=>.string s
 | _=>undef
theorem dG {c:Bool} {k:LK} {p:PVal} {v:Value} (h:Rep w ok D m c p v) (hk:leafIs k p = true):v = leafVal p:=by
 cases k <;> cases p <;> simp [leafIs] at hk <;> cases h <;> rfl
def tv (P:Program) (t:TypeId) (ps:List PVal):Value:=if ((P.underlying t).map isAggD).getD false then .agg (ps.map leafVal).toArray else leafVal (ps.headD .undef)
theorem cg : ∀ {ks:List LK} {ps qs:List PVal} {b:Bool},flatEq ks ps qs = some b → ps.length = ks.length ∧ qs.length = ks.length
 | [],[],[],_,_=>⟨rfl,rfl⟩
 | [],_ :: _,_,_,h=>by simp [flatEq] at h
 | [],[],_ :: _,_,h=>by simp [flatEq] at h
 | _ :: _,[],_,_,h=>by simp [flatEq] at h
 | _ :: _,_ :: _,[],_,h=>by simp [flatEq] at h
 | k :: ks,p :: ps,q :: qs,b,h=>by
  simp only [flatEq] at h
  split at h
  ·split at h
   ·rename_i a b' h1 h2
    obtain ⟨e1,e2⟩:=cg h2
    exact ⟨by simp [e1],by simp [e2]⟩
   ·cases h
  ·cases h
theorem eH : ∀ {ks ls:List LK} {ps qs:List PVal} {b:Bool},flatEq (ks ++ ls) ps qs = some b →
  ∃ b1 b2,flatEq ks (ps.take ks.length) (qs.take ks.length) = some b1 ∧ flatEq ls (ps.drop ks.length) (qs.drop ks.length) = some b2 ∧ b = (b1 && b2)
 | [],ls,ps,qs,b,h=>⟨true,b,by simp [flatEq],by simpa using h,by simp⟩
 | k :: ks,ls,[],qs,b,h=>by simp [flatEq] at h
 | k :: ks,ls,p :: ps,[],b,h=>by simp [flatEq] at h
 | k :: ks,ls,p :: ps,q :: qs,b,h=>by
  simp only [List.cons_append,flatEq] at h
  split at h
  ·rename_i hl
   split at h
   ·rename_i a b' h1 h2
    injection h with h
    obtain ⟨b1,b2,e1,e2,e3⟩:=eH h2
    refine ⟨a && b1,b2,?_,by simpa using e2,by rw [← h,e3,Bool.and_assoc]⟩
    simp only [List.length_cons,List.take_succ_cons,flatEq,if_pos hl,h1,e1]
   ·cases h
  ·cases h
theorem eL {t:TypeId} {d:TypeDesc} (hd:P.underlying t = some d) (hn:isAggD d = false) (p:PVal):tv P t [p] = leafVal p:=by simp [tv,hd,hn]
theorem cA {t:TypeId} {d:TypeDesc} (hd:P.underlying t = some d) (hn:isAggD d = false) (xs:Array Value) (off:Nat) (v:Value) (hv:xs[off]? = some v):(part t xs off).run P w = .ok v w:=by
 unfold part
 simp [fD hd,hn,hv]
theorem eZ {t:TypeId} {d:TypeDesc} {i:TypeInfo} (hd:P.underlying t = some d) (hn:isAggD d = true) (hi:P.info? t = some i) (xs:Array Value) (off:Nat):(part t xs off).run P w = .ok (.agg (xs.extract off (off + i.size))) w:=by
 unfold part
 simp [fD hd,hn,aQ hi]
mutual
theorem gU (P:Program) : ∀ (d n:Nat),d ≤ n → ∀ (t:TypeId) (ks:List LK),flatK P d t = some ks → ∀ (ps qs:List PVal) (b:Bool),flatEq ks ps qs = some b → ∀ w,(Op.equalIn n t (tv P t ps) (tv P t qs)).run P w = .ok b w
 | 0,n,hn,t,ks,h=>by simp [flatK] at h
 | d + 1,0,hn,t,ks,h=>by omega
 | d + 1,n + 1,hn,t,ks,h=>by
  intro ps qs b hb w
  unfold flatK at h
  split at h
  ·rename_i k hd
   injection h with h
   subst h
   obtain ⟨e1,e2⟩:=cg hb
   match ps,qs,e1,e2 with
   | [p],[q],_,_ =>
    rw [eL hd rfl,eL hd rfl]
    have hb' : ∃ a1 a2,p = .int k a1 ∧ q = .int k a2 ∧ b = decide (a1 = a2):=by
     cases p <;> cases q <;> simp [flatEq,leafIs,leafEq] at hb
     case int.int k1 a1 _ k2 a2 _ =>
      obtain ⟨⟨h1,h2⟩,hb⟩:=hb
      subst h1
      subst h2
      simp at hb
      exact ⟨a1,a2,rfl,rfl,hb.symm⟩
    obtain ⟨a1,a2,rfl,rfl,rfl⟩:=hb'
    simp only [leafVal]
    rw [run_equalIn_int w n t k k a1 a2 hd]
    rfl
  ·rename_i hd
   injection h with h
   subst h
   obtain ⟨e1,e2⟩:=cg hb
   match ps,qs,e1,e2 with
   | [p],[q],_,_ =>
    rw [eL hd rfl,eL hd rfl]
    cases p <;> cases q <;> simp [flatEq,leafIs,leafEq] at hb
    simp only [leafVal]
    rw [run_equalIn_bool w n t _ _ hd,← hb]
  ·rename_i hd
   injection h with h
   subst h
   obtain ⟨e1,e2⟩:=cg hb
   match ps,qs,e1,e2 with
   | [p],[q],_,_ =>
    rw [eL hd rfl,eL hd rfl]
    cases p <;> cases q <;> simp [flatEq,leafIs,leafEq] at hb
    simp only [leafVal]
    rw [run_equalIn_string w n t _ _ hd,← hb,beq_toListBytes]
  ·rename_i fs hd
   split at h
   ·cases h
   ·rename_i hst
    have hf:P.fieldsOf t = fs:=by simp [Program.fieldsOf,hd]
    have ht : ∀ l,tv P t l = .agg (l.map leafVal).toArray:=fun l=>by simp [tv,hd,isAggD]
    rw [ht,ht,run_equalIn_struct w n t _ _ (by rw [hf]; exact hd) (by simpa using hst),hf]
    exact fm P d n (by omega) fs.toList 0 ks h [] [] ps qs rfl rfl b hb w
  ·cases h
theorem fm (P:Program) : ∀ (d n:Nat),d ≤ n → ∀ (fs:List Field) (off:Nat) (ks:List LK),flatF P d fs off = some ks → ∀ (pre pre' ps qs:List PVal),pre.length = off → pre'.length = off → ∀ (b:Bool),flatEq ks ps qs = some b →
  ∀ w,(Op.eqFields n ((pre ++ ps).map leafVal).toArray ((pre' ++ qs).map leafVal).toArray fs).run P w = .ok b w
 | 0,n,hn,fs,off,ks,h=>by simp [flatF] at h
 | d + 1,n,hn,[],off,ks,h=>by
  intro pre pre' ps qs h1 h2 b hb w
  simp [flatF] at h
  subst h
  obtain ⟨e1,e2⟩:=cg hb
  obtain rfl:=List.eq_nil_of_length_eq_zero e1
  obtain rfl:=List.eq_nil_of_length_eq_zero e2
  simp [flatEq] at hb
  subst hb
  simp [Op.eqFields]
 | d + 1,n,hn,f :: r,off,ks,h=>by
  intro pre pre' ps qs h1 h2 b hb w
  unfold flatF at h
  split at h
  ·cases h
  ·rename_i hname
   split at h
   ·rename_i ks1 i ls hk hi hl
    split at h
    ·rename_i hlen
     injection h with h
     subst h
     simp only [hi,Option.map_some,Option.getD_some] at hl
     obtain ⟨b1,b2,e1,e2,e3⟩:=eH hb
     obtain ⟨l1,l2⟩:=cg e1
     have hnm:f.name ≠ "_":=fun e=>hname (.inl e)
     have hoff:f.offset = off:=Classical.byContradiction fun e=>hname (.inr e)
     have hq:=gU P d n (by omega) f.type ks1 hk _ _ b1 e1
     have hp : ∀ (pre0 l:List PVal),pre0.length = off → (l.take ks1.length).length = ks1.length → ∀ w,(part f.type ((pre0 ++ l).map leafVal).toArray f.offset).run P w = .ok (tv P f.type (l.take ks1.length)) w:=by
      intro pre0 l hpre htk w
      have hu : ∃ dd,P.underlying f.type = some dd:=by
       cases d with
       | zero=>simp [flatK] at hk
       | succ d =>
        unfold flatK at hk
        split at hk <;> first | exact ⟨_,by assumption⟩ | cases hk
      obtain ⟨dd,hdd⟩:=hu
      cases hag:isAggD dd with
      | true =>
       rw [eZ hdd hag hi]
       simp only [tv,hdd,Option.map_some,Option.getD_some,hag,if_true]
       congr 2
       rw [hoff,← hpre,← hlen]
       simp [List.drop_append,List.take_append]
      | false =>
       have hone:ks1.length = 1:=by
        cases d with
        | zero=>simp [flatK] at hk
        | succ d =>
         unfold flatK at hk
         rw [hdd] at hk
         cases dd <;> simp [isAggD] at hag <;> simp at hk <;> (try (subst hk; rfl))
       match l,htk with
       | x :: l',_ =>
        rw [hone]
        simp only [List.take_succ_cons,List.take_zero]
        rw [eL hdd hag]
        refine cA hdd hag _ _ _ ?_
        rw [hoff,← hpre]
        simp
       | [],htk=>simp [hone] at htk
     simp only [Op.eqFields]
     rw [if_pos hnm]
     simp only [Sem.run_bind]
     rw [hp pre ps h1 l1]
     simp only [Result.andThen_ok]
     rw [hp pre' qs h2 l2]
     simp only [Result.andThen_ok]
     rw [hq]
     simp only [Result.andThen_ok,Sem.run_ite]
     cases b1 with
     | false =>
      simp at e3
      subst e3
      simp
     | true =>
      simp only [Bool.not_true,Bool.false_eq_true,if_false]
      simp only [Bool.true_and] at e3
      subst e3
      have:=fm P d n (by omega) r (off + i.size) ls hl (pre ++ ps.take ks1.length) (pre' ++ qs.take ks1.length) (ps.drop ks1.length) (qs.drop ks1.length) (by simp [h1,← hlen]; have:=l1; simp at this; omega) (by simp [h2,← hlen]; have:=l2; simp at this; omega) b e2 w
      simpa [List.append_assoc] using this
    ·cases h
   ·cases h
end
theorem f8 {e:TypeId} {k:IntKind} (n:Nat) (hk:P.underlying e = some (.int k)) : ∀ (len j:Nat) (pre pre' ps qs:List PVal) (b:Bool),pre.length = j → pre'.length = j → flatEq (List.replicate len (.int k)) ps qs = some b →
  ∀ w,(Op.eqItems (n + 1) e 1 ((pre ++ ps).map leafVal).toArray ((pre' ++ qs).map leafVal).toArray (List.range' j len)).run P w = .ok b w
 | 0,j,pre,pre',ps,qs,b,h1,h2,hb,w=>by
  obtain ⟨e1,e2⟩:=cg hb
  obtain rfl:=List.eq_nil_of_length_eq_zero (by simpa using e1)
  obtain rfl:=List.eq_nil_of_length_eq_zero (by simpa using e2)
  simp [flatEq] at hb
  subst hb
  simp [Op.eqItems]
 | len + 1,j,pre,pre',ps,qs,b,h1,h2,hb,w=>by
  have hb0:=hb
  rw [List.replicate_succ] at hb
  match ps,qs with
  | [],qs=>simp [flatEq] at hb
  | p :: ps,[]=>simp [flatEq] at hb
  | p :: ps,q :: qs =>
   simp only [flatEq] at hb
   split at hb
   ·rename_i hl
    cases p <;> simp [leafIs] at hl
    cases q <;> simp [leafIs] at hl
    rename_i k1 x k2 y
    obtain ⟨rfl,rfl⟩:=hl
    simp only [leafEq,if_true] at hb
    cases hr:flatEq (List.replicate len (.int k)) ps qs with
    | none=>simp [hr] at hb
    | some b2 =>
     simp only [hr,Option.some.injEq] at hb
     have ih:=f8 n hk len (j + 1) (pre ++ [.int k x]) (pre' ++ [.int k y]) ps qs b2 (by simp [h1]) (by simp [h2]) hr w
     simp only [List.append_assoc,List.singleton_append] at ih
     have hx:(part e ((pre ++ .int k x :: ps).map leafVal).toArray (j * 1)).run P w = .ok (.int k x) w :=
      cA hk rfl _ _ _ (by rw [Nat.mul_one,← h1]; simp [leafVal])
     have hy:(part e ((pre' ++ .int k y :: qs).map leafVal).toArray (j * 1)).run P w = .ok (.int k y) w :=
      cA hk rfl _ _ _ (by rw [Nat.mul_one,← h2]; simp [leafVal])
     rw [List.range'_succ]
     simp only [Op.eqItems,Sem.run_bind,hx,hy,Result.andThen_ok,run_equalIn_int w n e k k x y hk]
     have hxy:(x == y) = decide (x = y):=rfl
     rw [hxy]
     cases hd:decide (x = y) with
     | false=>rw [hd] at hb; simp at hb; subst hb; simp
     | true=>rw [hd] at hb; simp at hb; subst hb; simpa using ih
   ·cases hb
theorem eqArr_run {t e:TypeId} {len n:Nat} {k:IntKind} {ie:TypeInfo} (hd:P.underlying t = some (.array len e)) (hk:P.underlying e = some (.int k)) (hie:P.info? e = some ie) (hsz:ie.size = 1) {ps qs:List PVal} {b:Bool} (hb:flatEq (List.replicate len (.int k)) ps qs = some b) (w:World) :
  (Op.equalIn (n + 2) t (.agg (ps.map leafVal).toArray) (.agg (qs.map leafVal).toArray)).run P w = .ok b w:=by
 have hc:P.cellsOf e = 1:=by simp [Program.cellsOf,hie,hsz]
 rw [run_equalIn_array w (n + 1) _ _ hd hie,hc,List.range_eq_range']
 exact f8 n hk len 0 [] [] ps qs b rfl rfl hb w
end
section
variable {P:Program} {o:Oper} {ρ:Operand → Value} {D:AId → Prop} {m:AId → Option Blk} {ok:Nat → Prop} {heap:AId → Option AObj} {w:World} {nx:AId} {r:R}
theorem bg {op:BinOp} {t yt:TypeId} {x y:Operand} (h:o.op = .binOp op t x y yt):(execOp ρ o).run P w = ((eqGuard op t x y (ρ x) (ρ y)).run P w).andThen fun _ w1=>((binOp op t (ρ x) (ρ y)).run P w1).andThen fun v w2=>.ok (.value v) w2:=by
 unfold execOp
 simp only [h,Sem.run_bind,Sem.run_pure]
 cases (eqGuard op t x y (ρ x) (ρ y)).run P w <;> rfl
theorem run_binInt {op:BinOp} {t:TypeId} {k:IntKind} {a b:Int} {p:PVal} (h:binInt op k a b = some p) : ∃ v,(binOp op t (.int k a) (.int k b)).run P w = .ok v w ∧ ∀ ok D m c,Rep w ok D m c p v:=by
 cases op <;> simp only [binInt] at h
 case add=>injection h with h; subst h; exact ⟨_,by simp [binOp,Op.intArith],fun _ _ _ _=>.int⟩
 case sub=>injection h with h; subst h; exact ⟨_,by simp [binOp,Op.intArith],fun _ _ _ _=>.int⟩
 case mul=>injection h with h; subst h; exact ⟨_,by simp [binOp,Op.intArith],fun _ _ _ _=>.int⟩
 case quo =>
  split at h
  ·cases h
  ·rename_i hb
   injection h with h; subst h
   exact ⟨_,by simp [binOp,Op.intDiv,hb],fun _ _ _ _=>.int⟩
 case rem =>
  split at h
  ·cases h
  ·rename_i hb
   injection h with h; subst h
   exact ⟨_,by simp [binOp,Op.intDiv,hb],fun _ _ _ _=>.int⟩
 case and=>injection h with h; subst h; exact ⟨_,by simp [binOp,Op.intBits],fun _ _ _ _=>.int⟩
 case or=>injection h with h; subst h; exact ⟨_,by simp [binOp,Op.intBits],fun _ _ _ _=>.int⟩
 case xor=>injection h with h; subst h; exact ⟨_,by simp [binOp,Op.intBits],fun _ _ _ _=>.int⟩
 case andNot=>injection h with h; subst h; exact ⟨_,by simp [binOp,Op.intBits],fun _ _ _ _=>.int⟩
 case eql=>injection h with h; subst h; exact ⟨_,by simp [binOp,Op.intCmp]; rfl,fun _ _ _ _=>.bool⟩
 case neq=>injection h with h; subst h; exact ⟨_,by simp [binOp,Op.intCmp]; rfl,fun _ _ _ _=>.bool⟩
 case lss=>injection h with h; subst h; exact ⟨_,by simp [binOp,Op.intCmp],fun _ _ _ _=>.bool⟩
 case leq=>injection h with h; subst h; exact ⟨_,by simp [binOp,Op.intCmp],fun _ _ _ _=>.bool⟩
 case gtr=>injection h with h; subst h; exact ⟨_,by simp [binOp,Op.intCmp],fun _ _ _ _=>.bool⟩
 case geq=>injection h with h; subst h; exact ⟨_,by simp [binOp,Op.intCmp],fun _ _ _ _=>.bool⟩
 all_goals cases h
theorem fM {op:BinOp} {t:TypeId} {x y:Operand} {k:IntKind} {n:Int} {v:Value}:(eqGuard op t x y (.int k n) v).run P w = .ok () w:=by
 rw [eqGuard_at_int]; rfl
theorem aP {c:Bool} {k:IntKind} {n:Int} {v:Value} (h:Rep w ok D m c (.int k n) v):v = .int k n:=by cases h; rfl
theorem ce {c:Bool} {b:Bool} {v:Value} (h:Rep w ok D m c (.bool b) v):v = .bool b:=by cases h; rfl
theorem bC {c:Bool} {s:ByteArray} {v:Value} (h:Rep w ok D m c (.str s) v):v = .string s:=by cases h; rfl
theorem cG {c:Bool} {v:Value} (h:Rep w ok D m c .nilp v):v = .pointer none:=by cases h; rfl
theorem bv {c:Bool} {v:Value} (h:Rep w ok D m c .nils v):v = .slice none 0 0:=by cases h; rfl
theorem dZ {c:Bool} {cs:List PVal} {v:Value} (h:Rep w ok D m c (.rptr cs) v) : ∃ ad,v = .pointer (some ad):=by cases h; exact ⟨_,rfl⟩
theorem eo {c:Bool} {cs:List PVal} {v:Value} (h:Rep w ok D m c (.agg cs) v) : ∃ vs:List Value,v = .agg vs.toArray ∧ Reps w ok D m c cs vs ∧ ∀ u ∈ vs,u.oneCell' = true:=by
 cases h with
 | agg hl h1 h=>exact ⟨_,rfl,⟨hl,h⟩,h1⟩
theorem gK {c:Bool} {sz:Nat} {es:List (List PVal)} {v:Value} (h:Rep w ok D m c (.ro sz es) v) (hp:0 < es.length) : ∃ ad n cap,v = .slice (some ad) n cap:=by
 cases h with
 | ro vs hn hc hm hs hA hcell h=>exact ⟨_,_,_,by rw [hA (by omega)]⟩
theorem fJ {c:Bool} : ∀ {ks:List LK} {ps qs:List PVal} {b:Bool} {vs us:List Value},flatEq ks ps qs = some b → Reps w ok D m c ps vs → Reps w ok D m c qs us → vs = ps.map leafVal ∧ us = qs.map leafVal
 | [],[],[],_,vs,us,_,h,h'=>by rw [h.unnil,h'.unnil]; exact ⟨rfl,rfl⟩
 | [],_ :: _,_,_,_,_,hf,_,_=>by simp [flatEq] at hf
 | [],[],_ :: _,_,_,_,hf,_,_=>by simp [flatEq] at hf
 | _ :: _,[],_,_,_,_,hf,_,_=>by simp [flatEq] at hf
 | _ :: _,_ :: _,[],_,_,_,hf,_,_=>by simp [flatEq] at hf
 | k :: ks,p :: ps,q :: qs,b,vs,us,hf,h,h'=>by
  simp only [flatEq] at hf
  split at hf
  ·rename_i hl
   split at hf
   ·rename_i a b' h1 h2
    obtain ⟨v,vs',rfl,hp,hs⟩:=h.uncons
    obtain ⟨u,us',rfl,hq,hu⟩:=h'.uncons
    obtain ⟨e1,e2⟩:=fJ h2 hs hu
    exact ⟨by rw [dG hp hl.1,e1]; rfl,by rw [dG hq hl.2,e2]; rfl⟩
   ·cases hf
  ·cases hf
theorem ek_bool {t:TypeId} (h:ekOf P t = some .bool):P.underlying t = some .bool:=by
 unfold ekOf at h
 split at h
 ·assumption
 ·cases h
 ·cases h
 ·split at h
  ·cases h
  ·cases hf:flatK P 60 t <;> simp [hf] at h
 ·(repeat' split at h) <;> cases h
 ·cases h
 ·cases h
 ·cases h
theorem ek_ptr {t:TypeId} (h:ekOf P t = some .ptr):P.underlying t = some (.pointer (P.pointee t)):=by
 unfold ekOf at h
 split at h
 ·cases h
 ·cases h
 ·cases h
 ·split at h
  ·cases h
  ·cases hf:flatK P 60 t <;> simp [hf] at h
 ·(repeat' split at h) <;> cases h
 ·rename_i hd
  rw [hd]; simp [Program.pointee,hd]
 ·cases h
 ·cases h
theorem ek_sl {t:TypeId} (h:ekOf P t = some .sl) : ∃ e,P.underlying t = some (.slice e):=by
 unfold ekOf at h
 split at h
 ·cases h
 ·cases h
 ·cases h
 ·split at h
  ·cases h
  ·cases hf:flatK P 60 t <;> simp [hf] at h
 ·(repeat' split at h) <;> cases h
 ·cases h
 ·rename_i hd
  exact ⟨_,hd⟩
 ·cases h
theorem ek_flat {t:TypeId} {ks:List LK} (h:ekOf P t = some (.flat ks)):((∃ fs,P.underlying t = some (.struct fs)) ∧ P.eqGuardType P.depth t = false ∧ flatK P 60 t = some ks) ∨
  (∃ len e k ie,P.underlying t = some (.array len e) ∧ P.underlying e = some (.int k) ∧ P.info? e = some ie ∧ P.eqGuardType P.depth t = false ∧ ie.size = 1 ∧ ks = List.replicate len (.int k)):=by
 unfold ekOf at h
 split at h
 ·cases h
 ·cases h
 ·cases h
 ·rename_i fs hd
  split at h
  ·cases h
  ·rename_i hg
   cases hf:flatK P 60 t with
   | none=>simp [hf] at h
   | some ks'=>simp [hf] at h; subst h; exact .inl ⟨⟨fs,hd⟩,by simpa using hg,rfl⟩
 ·rename_i len e hd
  split at h
  ·rename_i k ie hk hie
   split at h
   ·rename_i hg
    injection h with h
    injection h with h
    exact .inr ⟨len,e,k,ie,hd,hk,hie,hg.1,hg.2,h.symm⟩
   ·cases h
  ·cases h
 ·cases h
 ·cases h
 ·cases h
theorem run_flat {t:TypeId} {ks:List LK} (h:ekOf P t = some (.flat ks)) {ps qs:List PVal} {b:Bool} (hb:flatEq ks ps qs = some b) (x y:Operand) (op:BinOp) (w:World) :
  (eqGuard op t x y (.agg (ps.map leafVal).toArray) (.agg (qs.map leafVal).toArray)).run P w = .ok () w ∧
  (binOp .eql t (.agg (ps.map leafVal).toArray) (.agg (qs.map leafVal).toArray)).run P w = .ok (.bool b) w ∧ (binOp .neq t (.agg (ps.map leafVal).toArray) (.agg (qs.map leafVal).toArray)).run P w = .ok (.bool (!b)) w:=by
 rcases ek_flat h with ⟨⟨fs,hd⟩,hg,hk⟩ | ⟨len,e,k,ie,hd,hk,hie,hg,hsz,rfl⟩
 ·have ht : ∀ l,tv P t l = .agg (l.map leafVal).toArray:=fun l=>by simp [tv,hd,isAggD]
  have hr:=gU P 60 10000 (by omega) t ks hk ps qs b hb w
  rw [ht,ht] at hr
  refine ⟨run_eqGuard_agg w op t x y _ _ hg,?_,?_⟩
  ·rw [run_eql_struct,hr]; rfl
  ·rw [run_neq_struct,hr]; rfl
 ·have hr:=eqArr_run (P:=P) (n:=9998) hd hk hie hsz hb w
  refine ⟨run_eqGuard_agg w op t x y _ _ hg,?_,?_⟩
  ·rw [run_eql_struct,hr]; rfl
  ·rw [run_neq_struct,hr]; rfl
theorem str_room {n:Nat} (h:n ≤ 9223372036854775807) : ¬ IntKind.i64.max < (n:Int):=by
 have e:IntKind.i64.max = 9223372036854775807:=by decide
 rw [e]; omega
theorem core_bin {op:BinOp} {t yt:TypeId} {x y:Operand} {ek:EK} {p q:PVal} (h:o.op = .binOp op t x y yt) (hek:ekOf P t = some ek) (hH:SimH D m ok heap w) (hx:Rep w (okn ok m) D m false p (ρ x)) (hy:Rep w (okn ok m) D m false q (ρ y))
  (hc:core (.bin op ek) [p,q] heap nx = some r):Out P o ρ D m ok heap w r:=by
 have hptr : ∀ (a:Option Addr),ρ x = .pointer a → ρ y = .pointer none → ek = .ptr →
   (op = .eql → (execOp ρ o).run P w = .ok (.value (.bool a.isNone)) w) ∧ (op = .neq → (execOp ρ o).run P w = .ok (.value (.bool (!a.isNone))) w):=by
  intro a hx hy he
  subst he
  refine ⟨fun e=>?_,fun e=>?_⟩ <;> subst e <;> rw [bg h,hx,hy,eqGuard_at_pointer]
  ·simp [run_eql_pointer_nil w t a (ek_ptr hek)]
  ·simp [run_neq_pointer_nil w t a (ek_ptr hek)]
 have key : ∀ v,binV op ek p q = some v → Out P o ρ D m ok heap w { v }:=by
  intro v hv
  unfold binV at hv
  split at hv
  ·split at hv
   ·cases hv
   ·rename_i hb
    injection hv with hv; subst hv
    refine aC hH [] ?_ .int
    rw [bg h,aP hx,aP hy,fM]
    simp [binOp,Op.shift,hb]
  ·split at hv
   ·cases hv
   ·rename_i hb
    injection hv with hv; subst hv
    refine aC hH [] ?_ .int
    rw [bg h,aP hx,aP hy,fM]
    simp [binOp,Op.shift,hb]
  ·split at hv
   ·rename_i hk
    subst hk
    obtain ⟨u,h1,h2⟩:=run_binInt (P:=P) (w:=w) (t:=t) hv
    refine aC hH [] (v:=u) ?_ (h2 _ _ _ _)
    rw [bg h,aP hx,aP hy,fM]
    simp [h1]
   ·cases hv
  ·split at hv
   ·injection hv with hv; subst hv
    refine aC hH [] ?_ .bool
    rw [bg h,ce hx,ce hy,eqGuard_at_bool]
    simp [run_eql_bool w t _ _ (ek_bool hek)]
   ·cases hv
  ·split at hv
   ·injection hv with hv; subst hv
    refine aC hH [] ?_ .bool
    rw [bg h,ce hx,ce hy,eqGuard_at_bool]
    simp [run_neq_bool w t _ _ (ek_bool hek)]
   ·cases hv
  ·injection hv with hv; subst hv
   refine aC hH [] ?_ .bool
   rw [bg h,bC hx,bC hy,eqGuard_at_string]
   simp [binOp,Op.stringOp]
  ·injection hv with hv; subst hv
   refine aC hH [] ?_ .bool
   rw [bg h,bC hx,bC hy,eqGuard_at_string]
   simp [binOp,Op.stringOp]
  ·injection hv with hv; subst hv
   refine aC hH [] ?_ .bool
   rw [bg h,bC hx,bC hy,eqGuard_at_string]
   simp [binOp,Op.stringOp]
  ·injection hv with hv; subst hv
   refine aC hH [] ?_ .bool
   rw [bg h,bC hx,bC hy,eqGuard_at_string]
   simp [binOp,Op.stringOp]
  ·injection hv with hv; subst hv
   refine aC hH [] ?_ .bool
   rw [bg h,bC hx,bC hy,eqGuard_at_string]
   simp [binOp,Op.stringOp]
  ·injection hv with hv; subst hv
   refine aC hH [] ?_ .bool
   rw [bg h,bC hx,bC hy,eqGuard_at_string]
   simp [binOp,Op.stringOp]
  ·split at hv
   ·rename_i hle
    injection hv with hv; subst hv
    refine aC hH [] ?_ .str
    rw [bg h,bC hx,bC hy,eqGuard_at_string]
    have hn : ¬ IntKind.i64.max < (((_:ByteArray).size + (_:ByteArray).size:Nat):Int):=str_room hle
    simp only [binOp,Op.stringOp,gt_iff_lt,hn,if_false]
    simp
   ·cases hv
  ·split at hv
   ·injection hv with hv; subst hv
    exact aC hH [] ((hptr none (cG hx) (cG hy) rfl).1 rfl) .bool
   ·cases hv
  ·split at hv
   ·injection hv with hv; subst hv
    exact aC hH [] ((hptr none (cG hx) (cG hy) rfl).2 rfl) .bool
   ·cases hv
  ·split at hv
   ·injection hv with hv; subst hv
    obtain ⟨ad,e⟩:=dZ hx
    exact aC hH [] ((hptr (some ad) e (cG hy) rfl).1 rfl) .bool
   ·cases hv
  ·split at hv
   ·injection hv with hv; subst hv
    obtain ⟨ad,e⟩:=dZ hx
    exact aC hH [] ((hptr (some ad) e (cG hy) rfl).2 rfl) .bool
   ·cases hv
  ·split at hv
   ·injection hv with hv; subst hv
    obtain ⟨e,hd⟩:=ek_sl hek
    refine aC hH [] (v:=.bool true) ?_ .bool
    rw [bg h,bv hx,bv hy,eqGuard_at_slice]
    simp [Lib.run_eql_slice_nil w t e none 0 0 0 0 hd]
   ·cases hv
  ·split at hv
   ·injection hv with hv; subst hv
    obtain ⟨e,hd⟩:=ek_sl hek
    refine aC hH [] (v:=.bool false) ?_ .bool
    rw [bg h,bv hx,bv hy,eqGuard_at_slice]
    simp [run_neq_slice_nil_any w t e none 0 0 0 0 hd]
   ·cases hv
  ·split at hv
   ·injection hv with hv; subst hv
    obtain ⟨e,hd⟩:=ek_sl hek
    split
    ·rename_i hpos
     obtain ⟨ad,n,cap,e1⟩:=gK hx hpos
     refine aC hH [] (v:=.bool false) ?_ .bool
     rw [bg h,e1,bv hy,eqGuard_at_slice]
     simp [Lib.run_eql_slice_nil w t e (some ad) n cap 0 0 hd]
    ·obtain ⟨A,n,cap,e1⟩ : ∃ A n cap,ρ x = .slice A n cap:=by
      generalize ρ x = X at hx
      cases hx
      exact ⟨_,_,_,rfl⟩
     refine aC hH [] (v:=.bool A.isNone) ?_ .anyb
     rw [bg h,e1,bv hy,eqGuard_at_slice]
     cases A <;> simp [Lib.run_eql_slice_nil w t e _ n cap 0 0 hd]
   ·cases hv
  ·split at hv
   ·injection hv with hv; subst hv
    obtain ⟨e,hd⟩:=ek_sl hek
    split
    ·rename_i hpos
     obtain ⟨ad,n,cap,e1⟩:=gK hx hpos
     refine aC hH [] (v:=.bool true) ?_ .bool
     rw [bg h,e1,bv hy,eqGuard_at_slice]
     simp [run_neq_slice_nil_any w t e (some ad) n cap 0 0 hd]
    ·obtain ⟨A,n,cap,e1⟩ : ∃ A n cap,ρ x = .slice A n cap:=by
      generalize ρ x = X at hx
      cases hx
      exact ⟨_,_,_,rfl⟩
     refine aC hH [] (v:=.bool (!A.isNone)) ?_ .anyb
     rw [bg h,e1,bv hy,eqGuard_at_slice]
     cases A <;> simp [run_neq_slice_nil_any w t e _ n cap 0 0 hd]
   ·cases hv
  ·split at hv
   ·rename_i ks
    obtain ⟨b,hb,rfl⟩:=Option.map_eq_some_iff.1 hv
    obtain ⟨vs,e1,g1,_⟩:=eo hx
    obtain ⟨us,e2,g2,_⟩:=eo hy
    obtain ⟨rfl,rfl⟩:=fJ hb g1 g2
    obtain ⟨k1,k2,k3⟩:=run_flat hek hb x y .eql w
    refine aC hH [] (v:=.bool b) ?_ .bool
    rw [bg h,e1,e2,k1]
    simp only [Result.andThen_ok,k2]
   ·cases hv
  ·split at hv
   ·rename_i ks
    obtain ⟨b,hb,rfl⟩:=Option.map_eq_some_iff.1 hv
    obtain ⟨vs,e1,g1,_⟩:=eo hx
    obtain ⟨us,e2,g2,_⟩:=eo hy
    obtain ⟨rfl,rfl⟩:=fJ hb g1 g2
    obtain ⟨k1,k2,k3⟩:=run_flat hek hb x y .neq w
    refine aC hH [] (v:=.bool (!b)) ?_ .bool
    rw [bg h,e1,e2,k1]
    simp only [Result.andThen_ok,k3]
   ·cases hv
  ·cases hv
 have hown : ∀ id off cs,p = .ptr id off → heap id = some (.box cs) → ∃ ad,ρ x = .pointer (some ad):=by
  intro id off cs hp hob
  subst hp
  obtain ⟨B,hB,ho⟩:=hH.obj id _ hob
  cases B with
  | nil=>exact ho.elim
  | «at» b t =>
   cases hx with
   | ptr _ _ hp=>exact ⟨_,hp b t hB⟩
 have hownr : ∀ id sz lo n sz' ty es,p = .own id sz lo n → heap id = some (.row sz' ty es) → 0 < n → ∃ ad n' cap,ρ x = .slice (some ad) n' cap:=by
  intro id sz lo n sz' ty es hp hob hn
  subst hp
  obtain ⟨B,hB,ho⟩:=hH.obj id _ hob
  cases hx with
  | own _ _ hp =>
   have:=hp B hB
   cases B with
   | nil=>obtain ⟨_,_,e⟩:=this; omega
   | «at» b t =>
    obtain ⟨a,cap,e,_⟩:=this
    exact ⟨_,_,_,e⟩
 simp only [core,coreBin] at hc
 split at hc
 ·rename_i id off
  cases ho:heap id with
  | none=>simp [ho] at hc
  | some ob =>
   cases ob <;> simp [ho] at hc
   subst hc
   obtain ⟨ad,e⟩:=hown id off _ rfl ho
   exact aC hH _ ((hptr _ e (cG hy) rfl).1 rfl) .bool
 ·rename_i id off
  cases ho:heap id with
  | none=>simp [ho] at hc
  | some ob =>
   cases ob <;> simp [ho] at hc
   subst hc
   obtain ⟨ad,e⟩:=hown id off _ rfl ho
   exact aC hH _ ((hptr _ e (cG hy) rfl).2 rfl) .bool
 ·rename_i id sz lo n
  cases ho:heap id with
  | none=>simp [ho] at hc
  | some ob =>
   cases ob <;> simp [ho] at hc
   obtain ⟨hn,hc⟩:=hc
   subst hc
   obtain ⟨ad,n',cap,e1⟩:=hownr id _ _ _ _ _ _ rfl ho hn
   obtain ⟨e,hd⟩:=ek_sl hek
   refine aC hH _ (v:=.bool false) ?_ .bool
   rw [bg h,e1,bv hy,eqGuard_at_slice]
   simp [Lib.run_eql_slice_nil w t e (some ad) n' cap 0 0 hd]
 ·rename_i id sz lo n
  cases ho:heap id with
  | none=>simp [ho] at hc
  | some ob =>
   cases ob <;> simp [ho] at hc
   obtain ⟨hn,hc⟩:=hc
   subst hc
   obtain ⟨ad,n',cap,e1⟩:=hownr id _ _ _ _ _ _ rfl ho hn
   obtain ⟨e,hd⟩:=ek_sl hek
   refine aC hH _ (v:=.bool true) ?_ .bool
   rw [bg h,e1,bv hy,eqGuard_at_slice]
   simp [run_neq_slice_nil_any w t e (some ad) n' cap 0 0 hd]
 ·obtain ⟨v,hv,rfl⟩:=Option.map_eq_some_iff.1 hc
  exact key v hv
theorem core_mov {x:Operand} {p:PVal} (h:o.op = .move x ∨ o.op = .assign x) (hH:SimH D m ok heap w) (hx:Rep w (okn ok m) D m false p (ρ x)) (hc:core .mov [p] heap nx = some r):Out P o ρ D m ok heap w r:=by
 simp only [core,Option.some.injEq] at hc
 subst hc
 exact aC hH _ (exec_mov h) hx
theorem core_pick {c a b:Operand} {p q s:PVal} (h:o.op = .pick c a b) (hH:SimH D m ok heap w) (hp:Rep w (okn ok m) D m false p (ρ c)) (hq:Rep w (okn ok m) D m false q (ρ a)) (hs:Rep w (okn ok m) D m false s (ρ b))
  (hc:core .pick [p,q,s] heap nx = some r):Out P o ρ D m ok heap w r:=by
 cases p <;> simp only [core,Option.some.injEq] at hc
 case bool t =>
  subst hc
  refine aC hH _ (exec_pick h (ce hp)) ?_
  cases t
  ·exact hs
  ·exact hq
 all_goals cases hc
theorem core_unNot {t:TypeId} {x:Operand} {p:PVal} (h:o.op = .unOp .not t x) (hH:SimH D m ok heap w) (hx:Rep w (okn ok m) D m false p (ρ x)) (hc:core .unNot [p] heap nx = some r):Out P o ρ D m ok heap w r:=by
 cases p <;> simp only [core,Option.some.injEq] at hc
 case bool b =>
  subst hc
  refine aC hH _ (v:=.bool (!b)) ?_ .bool
  unfold execOp
  simp only [h,ce hx]
  simp [Op.unary]
 case anyb =>
  subst hc
  obtain ⟨b,hb⟩ : ∃ b,ρ x = .bool b:=by
   generalize ρ x = X at hx
   cases hx
   exact ⟨_,rfl⟩
  refine aC hH _ (v:=.bool (!b)) ?_ .anyb
  unfold execOp
  simp only [h,hb]
  simp [Op.unary]
 all_goals cases hc
theorem core_unNeg {t:TypeId} {x:Operand} {p:PVal} (h:o.op = .unOp .neg t x) (hH:SimH D m ok heap w) (hx:Rep w (okn ok m) D m false p (ρ x)) (hc:core .unNeg [p] heap nx = some r):Out P o ρ D m ok heap w r:=by
 cases p <;> simp only [core,Option.some.injEq] at hc
 case int k n =>
  subst hc
  refine aC hH _ (v:=.int k (k.wrap (-n))) ?_ .int
  unfold execOp
  simp only [h,aP hx]
  simp [Op.unary,Op.intArith]
 all_goals cases hc
theorem core_unInv {t:TypeId} {x:Operand} {p:PVal} (h:o.op = .unOp .xor t x) (hH:SimH D m ok heap w) (hx:Rep w (okn ok m) D m false p (ρ x)) (hc:core .unInv [p] heap nx = some r):Out P o ρ D m ok heap w r:=by
 cases p <;> simp only [core,binInt,Option.map_some,Option.some.injEq] at hc
 case int k n =>
  subst hc
  refine aC hH _ (v:=.int k (k.wrap (BitVec.ofInt k.bits (if k.signed then -1 else k.max) ^^^ BitVec.ofInt k.bits n).toNat)) ?_ .int
  unfold execOp
  simp only [h,aP hx]
  simp [Op.unary,Op.intBits]
 all_goals cases hc
theorem core_conv {src dst:TypeId} {x:Operand} {p:PVal} {k k':IntKind} (h:o.op = .convert src dst x) (hs:P.underlying src = some (.int k')) (hd:P.underlying dst = some (.int k)) (hH:SimH D m ok heap w)
  (hx:Rep w (okn ok m) D m false p (ρ x)) (hc:core (.conv k) [p] heap nx = some r):Out P o ρ D m ok heap w r:=by
 cases p <;> simp only [core,Option.some.injEq] at hc
 case int k0 n =>
  subst hc
  refine aC hH _ (v:=.int k (k.wrap n)) ?_ .int
  unfold execOp
  simp only [h,aP hx]
  simp [convert,run_underlying hs,run_underlying hd,Conv.intToInt]
 all_goals cases hc
theorem core_ext {x:Operand} {j:Nat} {p:PVal} (h:o.op = .extract x j) (hH:SimH D m ok heap w) (hx:Rep w (okn ok m) D m false p (ρ x)) (hc:core (.ext j) [p] heap nx = some r):Out P o ρ D m ok heap w r:=by
 cases p <;> simp only [core] at hc
 case tup cs =>
  obtain ⟨v,hv,rfl⟩:=Option.map_eq_some_iff.1 hc
  generalize hX:ρ x = X at hx
  cases hx with
  | @tup _ _ vs hl hh =>
   have hj:j < vs.length:=by rw [← hl]; exact (List.getElem?_eq_some_iff.1 hv).1
   refine aC hH _ (v:=vs[j]) ?_ (hh j v _ hv (List.getElem?_eq_getElem hj))
   unfold execOp
   simp only [h,hX]
   simp [Instr.extract,hj]
 all_goals cases hc
theorem core_mkfn {f:FuncId} {first captured:Array Operand} {ps:List PVal} (h:o.op = .makeFunc (.func f) first captured) (hH:SimH D m ok heap w) (hx:Reps w (okn ok m) D m false ps ((first.toList ++ captured.toList).map ρ))
  (hc:core (.mkfn f first.size) ps heap nx = some r):Out P o ρ D m ok heap w r:=by
 simp only [core,Option.some.injEq] at hc
 subst hc
 refine aC hH _ (v:=.func (.func f) (first.map ρ) (captured.map ρ)) ?_ ?_
 ·unfold execOp
  simp only [h]
  simp [Instr.makeFunc]
 ·have h1:=hx.take first.size
  have h2:=hx.drop first.size
  have e1:List.take first.size (List.map ρ (first.toList ++ captured.toList)) = (first.map ρ).toList:=by simp
  have e2:List.drop first.size (List.map ρ (first.toList ++ captured.toList)) = (captured.map ρ).toList:=by simp
  rw [e1] at h1
  rw [e2] at h2
  have:=Rep.fn (f:=f) h1.1 h2.1 h1.2 h2.2
  rw [Array.toArray_toList,Array.toArray_toList] at this
  exact this
theorem core_mkif {t:TypeId} {x:Operand} {p:PVal} {d:TypeDesc} (h:o.op = .makeInterface t x) (hd:P.underlying t = some d) (hn : ∀ ms,d ≠ .interface ms) (hH:SimH D m ok heap w) (hx:Rep w (okn ok m) D m false p (ρ x))
  (hc:core (.mkif t) [p] heap nx = some r):Out P o ρ D m ok heap w r:=by
 simp only [core,Option.some.injEq] at hc
 subst hc
 refine aC hH _ (v:=.iface t (ρ x)) ?_ (.iface hx)
 unfold execOp
 simp only [h,Sem.run_bind]
 have hcn:P.concrete t = true:=by
  unfold Program.concrete
  rw [hd]
  cases d <;> first | rfl | exact absurd rfl (hn _)
 rw [run_makeInterface w t (ρ x) hcn]
 rfl
theorem gb {b:Builtin} {args:Array Operand} {ats:Array TypeId} {x y:Operand} {p q:PVal} {isMax:Bool} (h:o.op = .call { callee:=.builtin b,args,argTypes:=ats }) (hb:b = if isMax then .max else .min) (ha:args.toList = [x,y]) (hH:SimH D m ok heap w)
  (hx:Rep w (okn ok m) D m false p (ρ x)) (hy:Rep w (okn ok m) D m false q (ρ y)) (hc:core (.minmax isMax) [p,q] heap nx = some r):Out P o ρ D m ok heap w r:=by
 have ha':args = #[x,y]:=by rw [← Array.toArray_toList (xs:=args),ha]
 cases p <;> cases q <;> simp only [core] at hc
 case int.int k a k' b' =>
  split at hc
  ·rename_i hk
   subst hk
   injection hc with hc
   subst hc
   cases isMax
   ·simp only [Bool.false_eq_true,if_false] at hb ⊢
    subst hb
    refine aC hH _ (v:=.int k (if b' < a then b' else a)) ?_ .int
    unfold execOp
    simp only [h,ha']
    simp [resolve,invoke,builtin,aP hx,aP hy,run_min_int2]
   ·simp only [if_true] at hb ⊢
    subst hb
    refine aC hH _ (v:=.int k (if a < b' then b' else a)) ?_ .int
    unfold execOp
    simp only [h,ha']
    simp [resolve,invoke,builtin,aP hx,aP hy,run_max_int2]
  ·cases hc
 all_goals cases hc
theorem ft {b:Builtin} {args:Array Operand} {ats:Array TypeId} {x y z:Operand} {p q s:PVal} {isMax:Bool} (h:o.op = .call { callee:=.builtin b,args,argTypes:=ats }) (hb:b = if isMax then .max else .min) (ha:args.toList = [x,y,z]) (hH:SimH D m ok heap w)
  (hx:Rep w (okn ok m) D m false p (ρ x)) (hy:Rep w (okn ok m) D m false q (ρ y)) (hz:Rep w (okn ok m) D m false s (ρ z)) (hc:core (.minmax isMax) [p,q,s] heap nx = some r):Out P o ρ D m ok heap w r:=by
 have ha':args = #[x,y,z]:=by rw [← Array.toArray_toList (xs:=args),ha]
 cases p <;> (try simp only [core] at hc) <;> try (cases hc; done)
 all_goals (cases q <;> (try simp only [core] at hc) <;> try (cases hc; done))
 all_goals (cases s <;> (try simp only [core] at hc) <;> try (cases hc; done))
 rename_i k a k' b' k'' c'
 split at hc
 ·rename_i hk
  obtain ⟨rfl,rfl⟩:=hk
  injection hc with hc
  subst hc
  cases isMax
  ·simp only [Bool.false_eq_true,if_false] at hb
   subst hb
   refine aC hH _ (v:=.int k (mm false (mm false a b') c')) ?_ .int
   unfold execOp
   simp only [h,ha']
   simp [resolve,invoke,builtin,aP hx,aP hy,aP hz,Builtin.min_,Builtin.min2,mm]
  ·simp only [if_true] at hb
   subst hb
   refine aC hH _ (v:=.int k (mm true (mm true a b') c')) ?_ .int
   unfold execOp
   simp only [h,ha']
   simp [resolve,invoke,builtin,aP hx,aP hy,aP hz,Builtin.max_,Builtin.max2,mm]
 ·cases hc
end
section
variable {P:Program} {o:Oper} {ρ:Operand → Value} {D:AId → Prop} {m:AId → Option Blk} {ok:Nat → Prop} {heap:AId → Option AObj} {w:World} {nx:AId} {r:R}
theorem gL (hH:SimH D m ok heap w) {id:AId} {cs:List PVal} (ho:heap id = some (.box cs)) : ∃ b t,m id = some (.at b t) ∧ RepObj w ok D m (.box cs) (.at b t):=by
 obtain ⟨B,hB,hob⟩:=hH.obj id _ ho
 cases B with
 | nil=>exact hob.elim
 | «at» b t=>exact ⟨b,t,hB,hob⟩
theorem row_at (hH:SimH D m ok heap w) {id:AId} {sz ty:Nat} {es:List (List PVal)} (ho:heap id = some (.row sz ty es)) (hn:0 < es.length) : ∃ b t,m id = some (.at b t) ∧ RepObj w ok D m (.row sz ty es) (.at b t):=by
 obtain ⟨B,hB,hob⟩:=hH.obj id _ ho
 cases B with
 | nil=>obtain ⟨rfl,_⟩:=hob; simp at hn
 | «at» b t=>exact ⟨b,t,hB,hob⟩
theorem rep_fn {c:Bool} {f:FuncId} {a b:List PVal} {v:Value} (h:Rep w ok D m c (.fn f a b) v) : ∃ fv cv:Array Value,v = .func (.func f) fv cv:=by
 cases h; exact ⟨_,_,rfl⟩
theorem core_nilchk {x:Operand} {p:PVal} (h:o.op = .nilCheck x) (hH:SimH D m ok heap w) (hx:Rep w (okn ok m) D m false p (ρ x)) (hc:core .nilchk [p] heap nx = some r):Out P o ρ D m ok heap w r:=by
 cases p <;> simp only [core] at hc
 case ptr id off =>
  cases ho:heap id with
  | none=>simp [ho] at hc
  | some ob =>
   cases ob <;> simp [ho] at hc
   subst hc
   obtain ⟨b,t,hB,_⟩:=gL hH ho
   refine aC hH _ (v:=ρ x) ?_ hx
   cases hx with
   | ptr _ _ hp =>
    unfold execOp
    simp only [h,hp b t hB]
    rfl
 case rptr cs =>
  injection hc with hc
  subst hc
  obtain ⟨ad,e⟩:=dZ hx
  refine aC hH _ (v:=ρ x) ?_ hx
  unfold execOp
  simp only [h,e]
  rfl
 case fn f a b =>
  injection hc with hc
  subst hc
  refine aC hH _ (v:=ρ x) ?_ hx
  obtain ⟨fv,cv,e⟩:=rep_fn hx
  unfold execOp
  simp only [h,e]
  rfl
 all_goals cases hc
theorem ec {s:TypeId} {x:Operand} {f:Nat} {fields:Array Field} {fl:Field} {i:TypeInfo} (h:o.op = .fieldAddr s x f) (hs:P.underlying s = some (.struct fields)) (hf:fields[f]? = some fl) (hi:P.info? fl.type = some i) (hn:i.size ≠ 0)
  {ad:Addr} (hx:ρ x = .pointer (some ad)):(execOp ρ o).run P w = .ok (.value (.pointer (some (ad.add fl.offset)))) w:=by
 unfold execOp
 simp only [h,hx]
 simp [Instr.fieldAt,run_underlying hs,hf,Instr.sureAddr,fieldPlace,aQ hi,hn]
theorem core_fldA {s:TypeId} {x:Operand} {f:Nat} {fields:Array Field} {fl:Field} {i:TypeInfo} {p:PVal} (h:o.op = .fieldAddr s x f) (hs:P.underlying s = some (.struct fields)) (hf:fields[f]? = some fl) (hi:P.info? fl.type = some i) (hn:i.size ≠ 0)
  (hH:SimH D m ok heap w) (hx:Rep w (okn ok m) D m false p (ρ x)) (hc:core (.fldA fl.offset) [p] heap nx = some r):Out P o ρ D m ok heap w r:=by
 cases p <;> simp only [core] at hc
 case ptr id off =>
  cases ho:heap id with
  | none=>simp [ho] at hc
  | some ob =>
   cases ob <;> simp [ho] at hc
   subst hc
   obtain ⟨b,t,hB,_⟩:=gL hH ho
   cases hx with
   | ptr hd _ hp =>
    refine aC hH _ (ec h hs hf hi hn (hp b t hB)) (.ptr hd rfl fun b' t' e=>?_)
    rw [hB] at e; injection e with e; injection e with e1 _; subst e1
    rw [bx]
 case eptr id sz j off =>
  cases ho:heap id with
  | none=>simp [ho] at hc
  | some ob =>
   cases ob <;> simp only [ho] at hc
   case row sz' ty es =>
    split at hc
    ·rename_i hcond
     injection hc with hc
     subst hc
     obtain ⟨b,t,hB,_⟩:=row_at hH ho (by omega)
     cases hx with
     | eptr hd _ hp =>
      refine aC hH _ (ec h hs hf hi hn (hp b t hB)) (.eptr hd rfl fun b' t' e=>?_)
      rw [hB] at e; injection e with e; injection e with e1 _; subst e1
      rw [bx,Nat.add_assoc]
    ·cases hc
   all_goals cases hc
 case rptr cs =>
  injection hc with hc
  subst hc
  obtain ⟨ad,e⟩:=dZ hx
  rw [e] at hx
  exact aC hH _ (ec h hs hf hi hn e) (rptr_drop hx _)
 all_goals cases hc
theorem run_part {t:TypeId} {d:TypeDesc} {i:TypeInfo} (hd:P.underlying t = some d) (hi:P.info? t = some i) (vs:List Value) (off:Nat) (hl:((vs.drop off).take (if isAggD d then i.size else 1)).length = if isAggD d then i.size else 1) :
  (part t vs.toArray off).run P w = .ok (if isAggD d then .agg ((vs.drop off).take (if isAggD d then i.size else 1)).toArray else ((vs.drop off).take (if isAggD d then i.size else 1)).headD undef) w:=by
 cases hg:isAggD d with
 | true =>
  rw [eZ hd hg hi]
  simp [List.take_drop]
 | false =>
  simp only [hg,Bool.false_eq_true,if_false] at hl ⊢
  have hlt:off < vs.length:=by simp at hl; omega
  have e:(vs.drop off).take 1 = [vs[off]]:=by rw [List.drop_eq_getElem_cons hlt]; rfl
  rw [e]
  exact cA hd hg _ _ _ (by simp [hlt])
theorem core_fld {s:TypeId} {x:Operand} {f:Nat} {fields:Array Field} {fl:Field} {k:Option Nat} {p:PVal} (h:o.op = .field s x f) (hs:P.underlying s = some (.struct fields)) (hf:fields[f]? = some fl) (hk:kindOf P fl.type = some k)
  (hH:SimH D m ok heap w) (hx:Rep w (okn ok m) D m false p (ρ x)) (hc:core (.fld fl.offset k) [p] heap nx = some r):Out P o ρ D m ok heap w r:=by
 obtain ⟨d,i,hd,hi,rfl⟩:=dc hk
 cases p <;> simp only [core] at hc
 case agg cs =>
  obtain ⟨v,hv,rfl⟩:=Option.map_eq_some_iff.1 hc
  obtain ⟨vs,e,h2,h3⟩:=eo hx
  obtain ⟨h4,h5⟩:=dq h2 h3 hv
  refine aC hH _ ?_ h5
  unfold execOp
  simp only [h,e]
  simp [Instr.field,run_underlying hs,hf,asAgg,run_part hd hi vs _ h4]
 all_goals cases hc
theorem fP {t e:TypeId} {x ix:Operand} {ti:TypeInfo} (h:o.op = .indexAddr t x ix) (ht:P.underlying t = some (.slice e)) (hi:P.info? e = some ti) {ad:Addr} {n cap:Nat} {k:IntKind} {i:Int} (hx:ρ x = .slice (some ad) n cap) (hix:ρ ix = .int k i)
  (h0:0 ≤ i) (h1:i < n):(execOp ρ o).run P w = .ok (.value (.pointer (some (ad.add (i.toNat * ti.size))))) w:=by
 unfold execOp
 simp only [h,hx,hix]
 simp [Instr.indexAt,asIntOf,run_underlying ht,h0,h1,aQ hi]
theorem core_idxA {t e:TypeId} {x ix:Operand} {ti:TypeInfo} {p q:PVal} (h:o.op = .indexAddr t x ix) (ht:P.underlying t = some (.slice e)) (hi:P.info? e = some ti) (hH:SimH D m ok heap w) (hx:Rep w (okn ok m) D m false p (ρ x)) (hy:Rep w (okn ok m) D m false q (ρ ix))
  (hc:core (.idxA ti.size) [p,q] heap nx = some r):Out P o ρ D m ok heap w r:=by
 cases p <;> cases q <;> simp only [core] at hc
 case ro.int sz es k i =>
  split at hc
  ·rename_i hcond
   obtain ⟨hsz,h0,h1⟩:=hcond
   subst hsz
   injection hc with hc
   subst hc
   obtain ⟨A,n,cap,e1,e2,e3,e4,e5,e6⟩:=ro_elem hx
   obtain ⟨ad,rfl,hr⟩:=e6 i.toNat (by omega)
   exact aC hH _ (fP h ht hi e1 (aP hy) h0 (by omega)) hr.opened
  ·cases hc
 case own.int id sz lo n k i =>
  cases ho:heap id with
  | none=>simp [ho] at hc
  | some ob =>
   cases ob <;> simp only [ho] at hc
   case row sz' ty es =>
    split at hc
    ·rename_i hcond
     obtain ⟨hsz,hsz',hlen,h0,h1⟩:=hcond
     subst hsz
     subst hsz'
     injection hc with hc
     subst hc
     obtain ⟨b,t',hB,_⟩:=row_at hH ho (by omega)
     cases hx with
     | own hd _ hp =>
      obtain ⟨a,cap,e1,e2,e3,e4,e5,e6,e7⟩:=hp _ hB
      have hoff:a.off = lo * ti.size:=by
       rcases e4 with e4 | e4
       ·exact e4
       ·omega
      refine aC hH _ (fP h ht hi e1 (aP hy) h0 h1) (.eptr hd rfl fun b' t'' e=>?_)
      rw [hB] at e; injection e with e; injection e with e1' _; subst e1'
      obtain ⟨ab,ao,as⟩:=a
      simp only at e2 e3 hoff
      subst e2 e3 hoff
      rw [bx,Nat.add_mul,Nat.add_zero]
    ·cases hc
   case box cs =>
    split at hc
    ·rename_i hcond
     obtain ⟨hsz,h0,h1⟩:=hcond
     subst hsz
     injection hc with hc
     subst hc
     obtain ⟨b,t',hB,_⟩:=gL hH ho
     cases hx with
     | own hd _ hp =>
      obtain ⟨a,cap,e1,e2,e3,e4,e5,e6,e7⟩:=hp _ hB
      have hoff:a.off = lo * ti.size:=by
       rcases e4 with e4 | e4
       ·exact e4
       ·omega
      refine aC hH _ (fP h ht hi e1 (aP hy) h0 h1) (.ptr hd rfl fun b' t'' e=>?_)
      rw [hB] at e; injection e with e; injection e with e1' _; subst e1'
      obtain ⟨ab,ao,as⟩:=a
      simp only at e2 e3 hoff
      subst e2 e3 hoff
      rw [bx,Nat.add_mul]
    ·cases hc
   all_goals cases hc
 all_goals cases hc
theorem eb {t e:TypeId} {len:Nat} {x ix:Operand} {ti:TypeInfo} (h:o.op = .indexAddr t x ix) (ht:P.underlying t = some (.array len e)) (hi:P.info? e = some ti) {ad:Addr} {k:IntKind} {i:Int} (hx:ρ x = .pointer (some ad)) (hix:ρ ix = .int k i)
  (h0:0 ≤ i) (h1:i < len):(execOp ρ o).run P w = .ok (.value (.pointer (some (ad.add (i.toNat * ti.size))))) w:=by
 unfold execOp
 simp only [h,hx,hix]
 simp [Instr.indexAt,asIntOf,run_underlying ht,h0,h1,aQ hi,Instr.sureAddr]
theorem core_idxAA {t e:TypeId} {len:Nat} {x ix:Operand} {ti:TypeInfo} {p q:PVal} (h:o.op = .indexAddr t x ix) (ht:P.underlying t = some (.array len e)) (hi:P.info? e = some ti) (hH:SimH D m ok heap w) (hx:Rep w (okn ok m) D m false p (ρ x)) (hy:Rep w (okn ok m) D m false q (ρ ix))
  (hc:core (.idxAA len ti.size) [p,q] heap nx = some r):Out P o ρ D m ok heap w r:=by
 cases p <;> cases q <;> simp only [core] at hc
 case ptr.int id off k i =>
  cases ho:heap id with
  | none=>simp [ho] at hc
  | some ob =>
   cases ob <;> simp only [ho] at hc
   case box cs =>
    split at hc
    ·rename_i hcond
     injection hc with hc
     subst hc
     obtain ⟨b,t',hB,_⟩:=gL hH ho
     cases hx with
     | ptr hd _ hp =>
      refine aC hH _ (eb h ht hi (hp b t' hB) (aP hy) hcond.1 hcond.2) (.ptr hd rfl fun b' t'' e=>?_)
      rw [hB] at e; injection e with e; injection e with e1 _; subst e1
      rw [bx]
    ·cases hc
   all_goals cases hc
 case rptr.int cs k i =>
  split at hc
  ·rename_i hcond
   injection hc with hc
   subst hc
   obtain ⟨ad,e1⟩:=dZ hx
   rw [e1] at hx
   exact aC hH _ (eb h ht hi e1 (aP hy) hcond.1 hcond.2) (rptr_drop hx _)
  ·cases hc
 case eptr.int id esz j off k i =>
  cases ho:heap id with
  | none=>simp [ho] at hc
  | some ob =>
   cases ob <;> simp only [ho] at hc
   case row esz' ty es =>
    split at hc
    ·rename_i hcond
     injection hc with hc
     subst hc
     obtain ⟨b,t',hB,_⟩:=row_at hH ho (by omega)
     cases hx with
     | eptr hd _ hp =>
      refine aC hH _ (eb h ht hi (hp b t' hB) (aP hy) hcond.2.2.1 hcond.2.2.2) (.eptr hd rfl fun b' t'' e=>?_)
      rw [hB] at e; injection e with e; injection e with e1 _; subst e1
      rw [bx,Nat.add_assoc]
    ·cases hc
   all_goals cases hc
 all_goals cases hc
theorem core_idxV {t e:TypeId} {len:Nat} {x ix:Operand} {ti:TypeInfo} {kk:Option Nat} {p q:PVal} (h:o.op = .index t x ix) (ht:P.underlying t = some (.array len e)) (hi:P.info? e = some ti) (hk:kindOf P e = some kk) (hH:SimH D m ok heap w) (hx:Rep w (okn ok m) D m false p (ρ x)) (hy:Rep w (okn ok m) D m false q (ρ ix))
  (hc:core (.idxV len ti.size kk) [p,q] heap nx = some r):Out P o ρ D m ok heap w r:=by
 obtain ⟨d,i',hd,hi',rfl⟩:=dc hk
 obtain rfl:i' = ti:=by rw [hi'] at hi; injection hi
 cases p <;> cases q <;> simp only [core] at hc
 case agg.int cs k i =>
  split at hc
  ·rename_i hcond
   obtain ⟨v,hv,rfl⟩:=Option.map_eq_some_iff.1 hc
   obtain ⟨vs,e1,h2,h3⟩:=eo hx
   obtain ⟨h4,h5⟩:=dq h2 h3 hv
   refine aC hH _ ?_ h5
   unfold execOp
   simp only [h,e1,aP hy]
   simp [Instr.index,asIntOf,run_underlying ht,hcond,aQ hi',run_part hd hi' vs _ h4]
  ·cases hc
 all_goals cases hc
theorem core_idxStr {t:TypeId} {x ix:Operand} {p q:PVal} (h:o.op = .index t x ix) (ht:P.underlying t = some .string) (hH:SimH D m ok heap w) (hx:Rep w (okn ok m) D m false p (ρ x)) (hy:Rep w (okn ok m) D m false q (ρ ix))
  (hc:core .idxS [p,q] heap nx = some r):Out P o ρ D m ok heap w r:=by
 cases p <;> cases q <;> simp only [core] at hc
 case str.int s k i =>
  split at hc
  ·rename_i hcond
   obtain ⟨b,hb,rfl⟩:=Option.map_eq_some_iff.1 hc
   refine aC hH _ (v:=.int .u8 b.toNat) ?_ .int
   have hlt:i.toNat < s.size:=by omega
   have hb':s[i.toNat]? = some b:=by
    rw [Array.getElem?_toList] at hb
    obtain ⟨h1,h2⟩:=Array.getElem?_eq_some_iff.1 hb
    simp only [getElem?_pos s i.toNat hlt]
    rw [← h2]; rfl
   unfold execOp
   simp only [h,bC hx,aP hy]
   rw [getElem?_pos s i.toNat hlt] at hb'
   injection hb' with hb'
   simp [Instr.index,asIntOf,run_underlying ht,hcond,hlt,hb']
  ·cases hc
 all_goals cases hc
end
section
variable {P:Program} {o:Oper} {ρ:Operand → Value} {D:AId → Prop} {m:AId → Option Blk} {ok:Nat → Prop} {heap:AId → Option AObj} {w:World} {nx:AId} {r:R}
theorem bX {args:Array Operand} {ats:Array TypeId} {x:Operand} {t:TypeId} (h:o.op = .call { callee:=.builtin .len,args,argTypes:=ats }) (ha:args.toList = [x]) (hat:ats.toList = [t]) {v:Value}
    (hv:(Builtin.len_ #[t] o.type #[ρ x]).run P w = .ok v w):(execOp ρ o).run P w = .ok (.value v) w:=by
  have ha':args = #[x]:=by rw [← Array.toArray_toList (xs:=args),ha]
  have hat':ats = #[t]:=by rw [← Array.toArray_toList (xs:=ats),hat]
  unfold execOp
  simp only [h,ha',hat']
  simp [resolve,invoke,builtin,hv]
theorem core_lenS {args:Array Operand} {ats:Array TypeId} {x:Operand} {t:TypeId} {p:PVal} (h:o.op = .call { callee:=.builtin .len,args,argTypes:=ats }) (ha:args.toList = [x]) (hat:ats.toList = [t]) (hd:P.underlying t = some .string)
    (hH:SimH D m ok heap w) (hx:Rep w (okn ok m) D m false p (ρ x)) (hc:core .lenS [p] heap nx = some r):Out P o ρ D m ok heap w r:=by
  cases p <;> simp only [core] at hc
  case str s =>
    injection hc with hc
    subst hc
    refine aC hH _ (bX h ha hat (v:=.int .i64 s.size) ?_) .int
    rw [bC hx]
    simp [Builtin.len_,run_underlying hd,goInt]
  all_goals cases hc
theorem core_lenL {args:Array Operand} {ats:Array TypeId} {x:Operand} {t e:TypeId} {p:PVal} (h:o.op = .call { callee:=.builtin .len,args,argTypes:=ats }) (ha:args.toList = [x]) (hat:ats.toList = [t]) (hd:P.underlying t = some (.slice e))
    (hH:SimH D m ok heap w) (hx:Rep w (okn ok m) D m false p (ρ x)) (hc:core .lenL [p] heap nx = some r):Out P o ρ D m ok heap w r:=by
  have key : ∀ a n c,ρ x = .slice a n c → (Builtin.len_ #[t] o.type #[ρ x]).run P w = .ok (.int .i64 n) w:=by
    intro a n c e
    rw [e]
    simp [Builtin.len_,run_underlying hd,goInt]
  cases p <;> simp only [core] at hc
  case nils =>
    injection hc with hc
    subst hc
    exact aC hH _ (bX h ha hat (key _ _ _ (bv hx))) .int
  case ro sz es =>
    injection hc with hc
    subst hc
    obtain ⟨A,n,cap,e1,rfl,_⟩:=ro_elem hx
    exact aC hH _ (bX h ha hat (key _ _ _ e1)) .int
  case own id sz lo n =>
    cases ho:heap id with
    | none=>simp [ho] at hc
    | some ob =>
      cases ob <;> simp only [ho] at hc
      case row sz' ty es =>
        injection hc with hc
        subst hc
        obtain ⟨B,hB,hob⟩:=hH.obj id _ ho
        cases hx with
        | own hd' _ hp =>
          have hv:=hp B hB
          cases B with
          | nil =>
            obtain ⟨⟨A0,e1⟩,e2,e3⟩:=hv
            subst e3
            exact aC hH _ (bX h ha hat (key _ _ _ e1)) .int
          | «at» b tt =>
            obtain ⟨a,cap,e1,_⟩:=hv
            exact aC hH _ (bX h ha hat (key _ _ _ e1)) .int
      case full sz' ty es =>
        injection hc with hc
        subst hc
        obtain ⟨B,hB,hob⟩:=hH.obj id _ ho
        cases hx with
        | own hd' _ hp =>
          have hv:=hp B hB
          cases B with
          | nil =>
            obtain ⟨⟨A0,e1⟩,e2,e3⟩:=hv
            subst e3
            exact aC hH _ (bX h ha hat (key _ _ _ e1)) .int
          | «at» b tt =>
            obtain ⟨a,cap,e1,_⟩:=hv
            exact aC hH _ (bX h ha hat (key _ _ _ e1)) .int
      case box cs =>
        injection hc with hc
        subst hc
        obtain ⟨B,hB,hob⟩:=hH.obj id _ ho
        cases hx with
        | own hd' _ hp =>
          have hv:=hp B hB
          cases B with
          | nil =>
            obtain ⟨⟨A0,e1⟩,e2,e3⟩:=hv
            subst e3
            exact aC hH _ (bX h ha hat (key _ _ _ e1)) .int
          | «at» b tt =>
            obtain ⟨a,cap,e1,_⟩:=hv
            exact aC hH _ (bX h ha hat (key _ _ _ e1)) .int
      all_goals cases hc
  all_goals cases hc
theorem core_lenM {args:Array Operand} {ats:Array TypeId} {x:Operand} {t k e:TypeId} {p:PVal} (h:o.op = .call { callee:=.builtin .len,args,argTypes:=ats }) (ha:args.toList = [x]) (hat:ats.toList = [t]) (hd:P.underlying t = some (.map k e))
    (hH:SimH D m ok heap w) (hx:Rep w (okn ok m) D m false p (ρ x)) (hc:core .lenM [p] heap nx = some r):Out P o ρ D m ok heap w r:=by
  cases p <;> simp only [core] at hc
  case nilm =>
    injection hc with hc
    subst hc
    refine aC hH _ (bX h ha hat (v:=.int .i64 0) ?_) .int
    have:ρ x = .map none:=by generalize ρ x = X at hx; cases hx; rfl
    rw [this]
    simp [Builtin.len_,run_underlying hd,goInt]
  case mapr id =>
    cases ho:heap id with
    | none=>simp [ho] at hc
    | some ob =>
      cases ob <;> simp only [ho] at hc
      case mp kvs =>
        injection hc with hc
        subst hc
        obtain ⟨B,hB,hob⟩:=hH.obj id _ ho
        cases B with
        | nil=>exact hob.elim
        | «at» b tt =>
          obtain ⟨ents,clock,g1,g2,g3⟩:=hob
          cases hx with
          | mapr _ _ hp =>
            refine aC hH _ (bX h ha hat (v:=.int .i64 kvs.length) ?_) .int
            rw [hp b tt hB]
            simp [Builtin.len_,run_underlying hd,goInt,getObj,Sem.run,g1,g2]
      all_goals cases hc
  all_goals cases hc
theorem foldl_set (us:List Value) : ∀ (k:Nat) (off:Nat) (cs:Array Value),off + k + us.length ≤ cs.size →
    ((us.zipIdx k).foldl (fun cs (c,j)=>cs.setIfInBounds (off + j) c) cs).toList = spliceV cs.toList (off + k) us:=by
  have key : ∀ (us:List Value) (k off:Nat) (cs:Array Value),off + k + us.length ≤ cs.size →
      ((us.zipIdx k).foldl (fun cs (c,j)=>cs.setIfInBounds (off + j) c) cs).toList = cs.toList.take (off + k) ++ us ++ cs.toList.drop (off + k + us.length):=by
    intro us
    induction us with
    | nil=>intro k off cs h; simp
    | cons u us ih =>
      intro k off cs h
      simp only [List.length_cons] at h
      rw [List.zipIdx_cons,List.foldl_cons,ih (k + 1) off _ (by simp; omega)]
      simp only [Array.toList_setIfInBounds]
      have hlt:off + k < cs.toList.length:=by simp; omega
      rw [show off + (k + 1) = (off + k) + 1 by omega,List.take_set,List.take_succ_eq_append_getElem hlt]
      rw [List.set_append_right _ _ (by simp; omega)]
      simp only [List.length_take,Nat.min_eq_left (Nat.le_of_lt hlt),Nat.sub_self,List.set_cons_zero]
      rw [List.drop_set_of_lt (by omega)]
      simp only [List.length_cons]
      rw [show off + k + 1 + us.length = off + k + (us.length + 1) by omega]
      simp
  intro k off cs h
  rw [key us k off cs h]
  match us,h with
  | [],_=>rfl
  | [u],h =>
    simp only [spliceV]
    simp only [List.length_cons,List.length_nil] at h
    have hlt:off + k < cs.toList.length:=by simp; omega
    simp only [List.length_cons,List.length_nil]
    rw [List.set_eq_take_append_cons_drop,if_pos hlt]
    simp
  | _ :: _ :: _,_=>rfl
theorem gR {c:Bool} (place:Nat → Option (Nat × Nat)) : ∀ {parts:List (Nat × Nat)} {ps cs cs':List PVal} {ivs:List (Nat × Value)} {vs:Array Value},fillP parts ps cs = some cs' → Reps w ok D m c cs vs.toList → (∀ v ∈ vs.toList,v.oneCell' = true) →
    ivs.length = ps.length → (∀ (i:Nat) (pr:Nat × Nat) (iv:Nat × Value),parts[i]? = some pr → ivs[i]? = some iv → place iv.1 = some pr) → Reps w ok D m c ps (ivs.map (·.2)) →
    ∃ vs':Array Value,Instr.fill place vs ivs = some vs' ∧ Reps w ok D m c cs' vs'.toList ∧ ∀ v ∈ vs'.toList,v.oneCell' = true
  | [],[],cs,cs',ivs,vs,hf,hcs,h1,hl,hpl,hps=>by
    simp [fillP] at hf
    subst hf
    obtain rfl:=List.eq_nil_of_length_eq_zero hl
    exact ⟨vs,rfl,hcs,h1⟩
  | [],_ :: _,_,_,_,_,hf,_,_,_,_,_=>by simp [fillP] at hf
  | _ :: _,[],_,_,_,_,hf,_,_,_,_,_=>by simp [fillP] at hf
  | (off,size) :: r,p :: ps,cs,cs',ivs,vs,hf,hcs,h1,hl,hpl,hps=>by
    match ivs,hl with
    | iv :: ivs,hl =>
      simp only [fillP] at hf
      split at hf
      · rename_i us hus
        split at hf
        · rename_i hcond
          obtain ⟨hul,hfit⟩:=hcond
          obtain ⟨g1,g2⟩:=cz hps.head hus
          have hsz:iv.2.cells.size = size:=by have:=g2.1; simp at this; omega
          have hfitv:off + iv.2.cells.size ≤ vs.size:=by have:=hcs.1; simp at this; omega
          have hnew:(iv.2.cells.zipIdx.foldl (fun cs (c,j)=>cs.setIfInBounds (off + j) c) vs).toList = spliceV vs.toList off iv.2.cells.toList:=by
            rw [← Array.foldl_toList,Array.toList_zipIdx]
            exact foldl_set iv.2.cells.toList 0 off vs (by simp; omega)
          have hrep:Reps w ok D m c (splice cs off us) (iv.2.cells.zipIdx.foldl (fun cs (c,j)=>cs.setIfInBounds (off + j) c) vs).toList:=by
            rw [hnew]
            exact hcs.splice g2 off
          have hone : ∀ v ∈ (iv.2.cells.zipIdx.foldl (fun cs (c,j)=>cs.setIfInBounds (off + j) c) vs).toList,v.oneCell' = true:=by
            intro v hv
            rw [hnew] at hv
            unfold spliceV at hv
            split at hv
            · rename_i u he
              rcases List.mem_or_eq_of_mem_set hv with hv | rfl
              · exact h1 v hv
              · exact g1 _ (by rw [he]; simp)
            · simp only [List.mem_append] at hv
              rcases hv with (hv | hv) | hv
              · exact h1 v (List.mem_of_mem_take hv)
              · exact g1 v hv
              · exact h1 v (List.mem_of_mem_drop hv)
          obtain ⟨vs',e1,e2,e3⟩:=gR place hf hrep hone (by simpa using hl) (fun i pr iv' hp hi=>hpl (i + 1) pr iv' (by simpa using hp) (by simpa using hi)) hps.tail
          refine ⟨vs',?_,e2,e3⟩
          have hp0:=hpl 0 (off,size) iv rfl rfl
          unfold Instr.fill
          simp only [hp0]
          rw [if_neg (by simp; omega)]
          exact e1
        · cases hf
      · cases hf
theorem eE {α β:Type} (g:α → Sem β) (g':α → β) : ∀ (l:List α),(∀ x ∈ l,∀ w,(g x).run P w = .ok (g' x) w) → ∀ w,(l.mapM g).run P w = .ok (l.map g') w
  | [],_,w=>by simp
  | x :: l,h,w=>by
    simp only [List.mapM_cons,Sem.run_bind]
    rw [h x List.mem_cons_self w]
    simp only [Result.andThen_ok,Sem.run_bind]
    rw [eE g g' l (fun y hy=>h y (List.mem_cons_of_mem _ hy)) w]
    simp
theorem gH {α β:Type} (g:α → Sem β) (g':α → β) (l:Array α) (h : ∀ x ∈ l.toList,∀ w,(g x).run P w = .ok (g' x) w) (w:World):(l.mapM g).run P w = .ok (l.map g') w:=by
  rw [Array.mapM_eq_mapM_toList]
  simp only [Sem.run_map]
  rw [eE g g' l.toList h w]
  simp only [Result.andThen]
  congr 1
  apply Array.ext'
  simp
theorem cu {c:Bool} {z:Value} {zs:List PVal} (h:zeroC z = some zs):Reps w ok D m c zs z.cells.toList ∧ ∀ v ∈ z.cells.toList,v.oneCell' = true:=by
  obtain ⟨h1,h2⟩:=cO (w:=w) (ok:=ok) (D:=D) (m:=m) (c:=c) h
  exact ⟨h2,h1⟩
theorem fc {fields:Array Field} : ∀ {parts:List (Nat × Operand)} {prs:List (Nat × Nat)} {xs:List Operand},partsOf P fields parts = some (prs,xs) →
    xs = parts.map (·.2) ∧ prs.length = parts.length ∧ ∀ (i:Nat) (pr:Nat × Nat) (iv:Nat × Operand),prs[i]? = some pr → parts[i]? = some iv → ∃ f ti,fields[iv.1]? = some f ∧ P.info? f.type = some ti ∧ pr = (f.offset,ti.size)
  | [],prs,xs,h=>by
    simp [partsOf] at h
    obtain ⟨rfl,rfl⟩:=h
    exact ⟨rfl,rfl,fun i pr iv hp=>by simp at hp⟩
  | (j,x) :: r,prs,xs,h=>by
    simp only [partsOf] at h
    split at h
    · rename_i f ps xs' h1 h2
      obtain ⟨ti,h3,h4⟩:=Option.map_eq_some_iff.1 h
      injection h4 with h4 h5
      subst h4 h5
      obtain ⟨e1,e2,e3⟩:=fc h2
      refine ⟨by simp [e1],by simp [e2],fun i pr iv hp hi=>?_⟩
      cases i with
      | zero =>
        simp at hp hi
        subst hp hi
        exact ⟨f,ti,h1,h3,rfl⟩
      | succ i=>exact e3 i pr iv (by simpa using hp) (by simpa using hi)
    · cases h
theorem core_build {t:TypeId} {parts:Array (Nat × Operand)} {i:TypeInfo} {fields:Array Field} {z:Value} {zs:List PVal} {prs:List (Nat × Nat)} {xs:List Operand} {ps:List PVal} (h:o.op = .build t parts) (hi:P.info? t = some i)
    (hd:P.underlying t = some (.struct fields)) (hz:i.zero = some z) (hall:(fields.all fun f=>(P.info? f.type).isSome) = true) (hzs:zeroC z = some zs) (hpo:partsOf P fields parts.toList = some (prs,xs))
    (hH:SimH D m ok heap w) (hx:Reps w (okn ok m) D m false ps (xs.map ρ)) (hc:core (.build zs prs) ps heap nx = some r):Out P o ρ D m ok heap w r:=by
  simp only [core] at hc
  obtain ⟨cs,hcs,rfl⟩:=Option.map_eq_some_iff.1 hc
  obtain ⟨e1,e2,e3⟩:=fc hpo
  obtain ⟨z1,z2⟩:=cu (w:=w) (ok:=okn ok m) (D:=D) (m:=m) (c:=false) hzs
  have hinfo : ∀ f ∈ fields.toList,∃ ti,P.info? f.type = some ti:=by
    intro f hf
    rw [Array.all_eq_true'] at hall
    exact Option.isSome_iff_exists.1 (hall f (by simpa using hf))
  have hpl:((fields.mapM fun f=>(do pure (f.offset,← sizeOf f.type):Sem (Nat × Nat))).run P w) = .ok (fields.map fun f=>(f.offset,((P.info? f.type).map (·.size)).getD 0)) w:=by
    refine gH _ _ fields (fun f hf w=>?_) w
    obtain ⟨ti,hti⟩:=hinfo f hf
    simp [aQ hti,hti]
  obtain ⟨vs',g1,g2,g3⟩:=gR (fun j=>(fields.map fun f=>(f.offset,((P.info? f.type).map (·.size)).getD 0))[j]?) (ivs:=parts.toList.map fun (j,x)=>(j,ρ x)) hcs z1 z2 (by simp; have:=hx.1; simp [e1] at this; omega)
    (fun j pr iv hp hiv=>by
      rw [List.getElem?_map] at hiv
      obtain ⟨jx,hjx,hiv⟩:=Option.map_eq_some_iff.1 hiv
      subst hiv
      obtain ⟨f,ti,h1,h2,h3⟩:=e3 j pr jx hp hjx
      subst h3
      simp [h1,h2])
    (by
      have:List.map (fun x:Nat × Value=>x.2) (List.map (fun x:Nat × Operand=>(x.1,ρ x.2)) parts.toList) = xs.map ρ:=by rw [e1]; simp
      rw [this]; exact hx)
  refine aC hH _ (v:=.agg vs') ?_ ?_
  · unfold execOp
    simp only [h]
    simp only [Sem.run_bind,Instr.build,zeroValue,typeInfo,run_program,Result.andThen_ok,hi,Sem.run_pure,hz,run_underlying hd,hpl]
    have:(Array.map (fun x:Nat × Operand=>(x.1,ρ x.2)) parts).toList = parts.toList.map fun (j,x)=>(j,ρ x):=by simp
    rw [this,g1]
    simp
  · have:=Rep.agg (w:=w) (ok:=okn ok m) (D:=D) (m:=m) (c:=false) g2.1 g3 g2.2
    simpa using this
theorem eF {sz:Nat} : ∀ {parts:List (Nat × Operand)},(partsArr sz parts).2 = parts.map (·.2) ∧ (partsArr sz parts).1 = parts.map fun iv=>(iv.1 * sz,sz)
  | []=>⟨rfl,rfl⟩
  | (i,x) :: r=>by
    obtain ⟨h1,h2⟩:=eF (sz:=sz) (parts:=r)
    exact ⟨by simp [partsArr,h1],by simp [partsArr,h2]⟩
theorem core_buildArr {t e:TypeId} {len:Nat} {parts:Array (Nat × Operand)} {i ie:TypeInfo} {z:Value} {zs:List PVal} {ps:List PVal} (h:o.op = .build t parts) (hi:P.info? t = some i)
    (hd:P.underlying t = some (.array len e)) (hz:i.zero = some z) (hie:P.info? e = some ie) (hzs:zeroC z = some zs)
    (hH:SimH D m ok heap w) (hx:Reps w (okn ok m) D m false ps ((partsArr ie.size parts.toList).2.map ρ)) (hc:core (.build zs (partsArr ie.size parts.toList).1) ps heap nx = some r):Out P o ρ D m ok heap w r:=by
  simp only [core] at hc
  obtain ⟨cs,hcs,rfl⟩:=Option.map_eq_some_iff.1 hc
  obtain ⟨e1,e2⟩:=eF (sz:=ie.size) (parts:=parts.toList)
  rw [e1] at hx
  rw [e2] at hcs
  obtain ⟨z1,z2⟩:=cu (w:=w) (ok:=okn ok m) (D:=D) (m:=m) (c:=false) hzs
  obtain ⟨vs',g1,g2,g3⟩:=gR (fun j=>some (j * ie.size,ie.size)) (ivs:=parts.toList.map fun (j,x)=>(j,ρ x)) hcs z1 z2 (by have:=hx.1; simp at this; simp [this])
    (fun j pr iv hp hiv=>by
      rw [List.getElem?_map] at hiv hp
      obtain ⟨jx,hjx,hiv⟩:=Option.map_eq_some_iff.1 hiv
      rw [hjx] at hp
      subst hiv
      simpa using hp)
    (by
      have:List.map (fun x:Nat × Value=>x.2) (List.map (fun x:Nat × Operand=>(x.1,ρ x.2)) parts.toList) = (parts.toList.map (·.2)).map ρ:=by simp
      rw [this]; exact hx)
  refine aC hH _ (v:=.agg vs') ?_ ?_
  · unfold execOp
    simp only [h]
    simp only [Sem.run_bind,Instr.build,zeroValue,typeInfo,run_program,Result.andThen_ok,hi,Sem.run_pure,hz,run_underlying hd,aQ hie]
    have:(Array.map (fun x:Nat × Operand=>(x.1,ρ x.2)) parts).toList = parts.toList.map fun (j,x)=>(j,ρ x):=by simp
    rw [this,g1]
    simp
  · have:=Rep.agg (w:=w) (ok:=okn ok m) (D:=D) (m:=m) (c:=false) g2.1 g3 g2.2
    simpa using this
theorem cK {α:Type} {sz:Nat} : ∀ {ls:List (List α)} {i j:Nat} {l:List α},(∀ l ∈ ls,l.length = sz) → ls[i]? = some l → j < sz → ls.flatten[i * sz + j]? = l[j]?
  | [],i,j,l,_,h,_=>by simp at h
  | x :: r,0,j,l,hs,h,hj=>by
    simp at h
    subst h
    rw [List.flatten_cons,List.getElem?_append_left (by rw [hs _ List.mem_cons_self]; omega)]
    congr 1
    omega
  | x :: r,i + 1,j,l,hs,h,hj=>by
    have hx:=hs x List.mem_cons_self
    rw [List.flatten_cons,List.getElem?_append_right (by rw [hx,Nat.succ_mul]; omega),hx]
    have:=cK (ls:=r) (i:=i) (j:=j) (fun l hl=>hs l (List.mem_cons_of_mem _ hl)) (by simpa using h) hj
    rw [← this]
    congr 1
    rw [Nat.succ_mul]
    omega
theorem bk {α:Type} {sz:Nat} : ∀ {ls:List (List α)},(∀ l ∈ ls,l.length = sz) → ls.flatten.length = ls.length * sz
  | [],_=>by simp
  | x :: r,hs=>by
    rw [List.flatten_cons,List.length_append,hs _ List.mem_cons_self,bk (fun l hl=>hs l (List.mem_cons_of_mem _ hl)),List.length_cons,Nat.succ_mul]
    omega
def idxd {α:Type}:Nat → List α → List (Nat × α)
  | _,[]=>[]
  | k,x :: r=>(k,x) :: idxd (k + 1) r
theorem ct : ∀ {k:Nat} {parts:List (Nat × Operand)} {xs:List Operand},partsFull k parts = some xs → parts = idxd k xs
  | k,[],xs,h=>by simp [partsFull] at h; subst h; rfl
  | k,(i,x) :: r,xs,h=>by
    simp only [partsFull] at h
    split at h
    · rename_i hi
      obtain ⟨ys,h1,rfl⟩:=Option.map_eq_some_iff.1 h
      rw [ct h1,hi]
      rfl
    · cases h
theorem fh {α β:Type} (f:α → β) : ∀ (k:Nat) (l:List α),(idxd k l).map (fun (i,x)=>(i,f x)) = idxd k (l.map f)
  | _,[]=>rfl
  | k,x :: r=>by simp [idxd,fh f (k + 1) r]
theorem ex {size:Nat} : ∀ (us:List Value) (k:Nat) (vs:Array Value),(∀ u ∈ us,u.cells.size = size) → (k + us.length) * size ≤ vs.size →
    ∃ vs':Array Value,Instr.fill (fun i=>some (i * size,size)) vs (idxd k us) = some vs' ∧ vs'.toList = vs.toList.take (k * size) ++ (us.map (·.cells.toList)).flatten ++ vs.toList.drop ((k + us.length) * size)
  | [],k,vs,hs,hl=>⟨vs,rfl,by simp⟩
  | u :: us,k,vs,hs,hl=>by
    have hu:=hs u List.mem_cons_self
    have hk:k * size + size ≤ vs.size:=by
      have:(k + 1) * size ≤ (k + (u :: us).length) * size:=Nat.mul_le_mul_right _ (by simp)
      rw [Nat.succ_mul] at this
      omega
    have hnew:(u.cells.zipIdx.foldl (fun cs (c,j)=>cs.setIfInBounds (k * size + j) c) vs).toList = vs.toList.take (k * size) ++ u.cells.toList ++ vs.toList.drop (k * size + size):=by
      rw [← Array.foldl_toList,Array.toList_zipIdx,foldl_set u.cells.toList 0 (k * size) vs (by simp; omega)]
      unfold spliceV
      split
      · rename_i v he
        have:u.cells.size = 1:=by rw [← Array.length_toList,he]; rfl
        have hlt:k * size < vs.toList.length:=by simp; omega
        rw [he,List.set_eq_take_append_cons_drop,if_pos (by simpa using hlt)]
        rw [hu] at this
        simp [this]
      · simp [hu]
    have hsz':(u.cells.zipIdx.foldl (fun cs (c,j)=>cs.setIfInBounds (k * size + j) c) vs).size = vs.size:=by
      rw [← Array.length_toList,hnew]
      simp [hu]
      omega
    obtain ⟨vs',e1,e2⟩:=ex us (k + 1) (u.cells.zipIdx.foldl (fun cs (c,j)=>cs.setIfInBounds (k * size + j) c) vs) (fun x hx=>hs x (List.mem_cons_of_mem _ hx)) (by rw [hsz']; simp at hl; rw [show k + 1 + us.length = k + (us.length + 1) by omega]; exact hl)
    refine ⟨vs',?_,?_⟩
    · simp only [idxd,Instr.fill]
      rw [if_neg (by simp [hu]; omega)]
      exact e1
    · rw [e2,hnew]
      have hl1:(List.take (k * size) vs.toList ++ u.cells.toList).length = (k + 1) * size:=by
        rw [Nat.succ_mul]; simp [hu]; omega
      rw [List.take_left' hl1,List.drop_append,hl1,List.drop_of_length_le (l:=List.take (k * size) vs.toList ++ u.cells.toList) (by
        rw [hl1]; exact Nat.mul_le_mul_right _ (by omega)),List.nil_append,List.drop_drop]
      have:k * size + size + ((k + 1 + us.length) * size - (k + 1) * size) = (k + (u :: us).length) * size:=by
        have h1:(k + 1) * size ≤ (k + 1 + us.length) * size:=Nat.mul_le_mul_right _ (by omega)
        rw [show k + (u :: us).length = k + 1 + us.length by simp; omega]
        rw [Nat.succ_mul] at h1 ⊢
        omega
      rw [this]
      simp [List.append_assoc]
theorem dK {sz:Nat} : ∀ {ps:List PVal} {es:List (List PVal)},elemsOf sz ps = some es → es.length = ps.length ∧ (∀ e ∈ es,e.length = sz) ∧ ∀ (i:Nat) (p:PVal) (e:List PVal),ps[i]? = some p → es[i]? = some e → p.cells = some e ∧ p.closed = true
  | [],es,h=>by
    simp [elemsOf] at h
    subst h
    exact ⟨rfl,fun e he=>by simp at he,fun i p e hp=>by simp at hp⟩
  | p :: ps,es,h=>by
    simp only [elemsOf] at h
    split at h
    · rename_i vs es' h1 h2
      split at h
      · rename_i hc
        injection h with h
        subst h
        obtain ⟨e1,e2,e3⟩:=dK h2
        refine ⟨by simp [e1],fun e he=>?_,fun i q e hq he=>?_⟩
        · rcases List.mem_cons.1 he with rfl | he
          · exact hc.1
          · exact e2 e he
        · cases i with
          | zero =>
            simp at hq he
            subst hq he
            exact ⟨h1,hc.2⟩
          | succ i=>exact e3 i q e (by simpa using hq) (by simpa using he)
      · cases h
    · cases h
theorem fa {sz ty:Nat} {es:List (List PVal)} {ls:List (List Value)} {vs:Array Value} {w1:World} {m':AId → Option Blk} {D':AId → Prop} {b tot:Nat} (hb:w1.heap[b]? = some (.cells vs ty (0,0))) (hvs:vs.size = tot * sz) (hpre:ls.flatten <+: vs.toList) (htot:es.length ≤ tot) (hmax:tot ≤ maxLen)
    (hsz:0 < sz) (hes : ∀ e ∈ es,e.length = sz) (hls : ∀ l ∈ ls,l.length = sz) (hll:ls.length = es.length) (h1 : ∀ l ∈ ls,∀ v ∈ l,v.oneCell' = true)
    (hr : ∀ (i:Nat) (e:List PVal) (l:List Value),es[i]? = some e → ls[i]? = some l → Reps w1 (okn ok m') D' m' true e l):RepObj w1 ok D' m' (.row sz ty es) (.at b tot):=by
  refine ⟨vs,hb,hvs,htot,hmax,hsz,hes,fun i j e p he hp=>?_⟩
  have hi:i < ls.length:=by rw [hll]; exact (List.getElem?_eq_some_iff.1 he).1
  have hl:=List.getElem?_eq_getElem hi
  have hj:j < sz:=by rw [← hes e (List.mem_of_getElem? he)]; exact (List.getElem?_eq_some_iff.1 hp).1
  have hlen:=hls _ (List.getElem_mem hi)
  have hjl:j < ls[i].length:=by rw [hlen]; exact hj
  have hg:=cK hls hl hj
  rw [List.getElem?_eq_getElem hjl] at hg
  refine ⟨ls[i][j],?_,h1 _ (List.getElem_mem hi) _ (List.getElem_mem hjl),(hr i e _ he hl).2 j p _ hp (List.getElem?_eq_getElem hjl)⟩
  rw [← Array.getElem?_toList]
  obtain ⟨t,ht⟩:=hpre
  rw [← ht,List.getElem?_append_left (List.getElem?_eq_some_iff.1 hg).1]
  exact hg
theorem gj {sz:Nat} : ∀ {ps:List PVal} {es:List (List PVal)},cellsL sz ps = some es → es.length = ps.length ∧ (∀ e ∈ es,e.length = sz) ∧ ∀ (i:Nat) (p:PVal) (e:List PVal),ps[i]? = some p → es[i]? = some e → p.cells = some e
  | [],es,h=>by
    simp [cellsL] at h
    subst h
    exact ⟨rfl,fun e he=>by simp at he,fun i p e hp=>by simp at hp⟩
  | p :: ps,es,h=>by
    simp only [cellsL] at h
    split at h
    · rename_i vs es' h1 h2
      split at h
      · rename_i hc
        injection h with h
        subst h
        obtain ⟨e1,e2,e3⟩:=gj h2
        refine ⟨by simp [e1],fun e he=>?_,fun i q e hq he=>?_⟩
        · rcases List.mem_cons.1 he with rfl | he
          · exact hc
          · exact e2 e he
        · cases i with
          | zero =>
            simp at hq he
            subst hq he
            exact h1
          | succ i=>exact e3 i q e (by simpa using hq) (by simpa using he)
      · cases h
    · cases h
theorem fb {w:World} {ok:Nat → Prop} {D:AId → Prop} {m:AId → Option Blk} {c:Bool} : ∀ {es:List (List PVal)} {ls:List (List Value)},es.length = ls.length → (∀ (k:Nat) (e:List PVal) (l:List Value),es[k]? = some e → ls[k]? = some l → Reps w ok D m c e l) → Reps w ok D m c es.flatten ls.flatten
  | [],ls,hl,_=>by
    have:ls = []:=List.eq_nil_of_length_eq_zero hl.symm
    subst this
    exact Reps.nil ..
  | e :: es,ls,hl,h=>by
    match ls,hl with
    | l :: ls,hl =>
      simp only [List.flatten_cons]
      exact (h 0 e l rfl rfl).append (fb (by simpa using hl) fun k e' l' he hl'=>h (k + 1) e' l' (by simpa using he) (by simpa using hl'))
theorem bslice_run {t e:TypeId} {len:Nat} {parts:Array (Nat × Operand)} {i:TypeInfo} {xs:List Operand} {z:Value} (h:o.op = .buildSlice t len parts) (ht:P.underlying t = some (.slice e)) (hi:P.info? e = some i) (hpf:partsFull 0 parts.toList = some xs)
    (hlen:xs.length = len) (hpos:0 < i.size) (hcap:len * i.size ≤ 2 ^ 24) (hz1:i.zero = some z) (hz2:z.cells.size = i.size) (husz : ∀ u ∈ xs.map ρ,u.cells.size = i.size) :
    ∃ vs':Array Value,vs'.toList = ((xs.map ρ).map (·.cells.toList)).flatten ∧ vs'.size = len * i.size ∧ (execOp ρ o).run P w = .ok (.value (.slice (some ⟨w.heap.size,0,none⟩) len len)) (w.alloc (.cells vs' e)):=by
  have hparts:=ct hpf
  obtain ⟨vs',f1,f2⟩:=ex (size:=i.size) (xs.map ρ) 0 ((Array.range (len * i.size)).map (fun j=>z.cells[j % z.cells.size]!)) husz (by simp [hlen])
  have hvs':vs'.toList = ((xs.map ρ).map (·.cells.toList)).flatten:=by
    rw [f2]
    simp [hlen]
  have hfl:=bk (ls:=(xs.map ρ).map (·.cells.toList)) (sz:=i.size) (fun l hl=>by
    obtain ⟨u,hu,rfl⟩:=List.mem_map.1 hl
    simpa using husz u hu)
  have hvsz:vs'.size = len * i.size:=by
    rw [← Array.length_toList,hvs',hfl]
    simp [hlen]
  refine ⟨vs',hvs',hvsz,?_⟩
  unfold execOp
  simp only [h]
  have hids:(Array.map (fun x:Nat × Operand=>(x.1,ρ x.2)) parts).toList = idxd 0 (xs.map ρ):=by
    rw [Array.toList_map,hparts]
    exact fh ρ 0 xs
  simp only [Sem.run_bind,Instr.buildSlice,run_underlying ht,Result.andThen_ok,aQ hi]
  rw [if_neg (by omega)]
  by_cases h0:len * i.size = 0
  · simp only [h0,if_true] at f1 ⊢
    simp only [Sem.run_bind,Sem.run_pure,Result.andThen_ok]
    have hl0:xs = []:=by
      have:len = 0:=by
        rcases Nat.mul_eq_zero.1 h0 with h' | h'
        · exact h'
        · omega
      exact List.eq_nil_of_length_eq_zero (by omega)
    subst hl0
    simp only [List.map_nil,idxd,Instr.fill] at f1 hids
    injection f1 with f1
    subst f1
    rw [hids]
    simp [Instr.fill,newRow,Array.range_zero']
  · simp only [h0,if_false]
    simp only [Sem.run_bind,Sem.run_pure,Result.andThen_ok,zeroValue,typeInfo,run_program,hi,hz1]
    rw [hids,f1]
    simp [newRow]
theorem core_bsliceB {t e:TypeId} {len:Nat} {parts:Array (Nat × Operand)} {i:TypeInfo} {xs:List Operand} {ps:List PVal} {es:List (List PVal)} (h:o.op = .buildSlice t len parts) (ht:P.underlying t = some (.slice e)) (hi:P.info? e = some i) (hpf:partsFull 0 parts.toList = some xs)
    (hlen:xs.length = len) (hpos:0 < i.size) (hcap:len * i.size ≤ 2 ^ 24) (hz:(i.zero.map fun z=>z.cells.size) = some i.size) (hH:SimH D m ok heap w) (hnx : ¬ D nx) (hx:Reps w (okn ok m) D m false ps (xs.map ρ))
    (hes:cellsL i.size ps = some es):Out P o ρ D m ok heap w { v:=.own nx i.size 0 ps.length,wh:=[(nx,some (.box es.flatten))],nw:=[nx] }:=by
  obtain ⟨e1,e2,e3⟩:=gj hes
  obtain ⟨z,hz1,hz2⟩:=Option.map_eq_some_iff.1 hz
  have hpl:ps.length = len:=by have:=hx.1; simp at this; omega
  have hcells : ∀ (k:Nat) (u:Value),(xs.map ρ)[k]? = some u → ∃ p el,ps[k]? = some p ∧ es[k]? = some el ∧ (∀ v ∈ u.cells.toList,v.oneCell' = true) ∧ Reps w (okn ok m) D m false el u.cells.toList:=by
    intro k u hu
    have hk:k < ps.length:=by rw [hx.1]; exact (List.getElem?_eq_some_iff.1 hu).1
    have hk':k < es.length:=by omega
    have hp:=List.getElem?_eq_getElem hk
    have he:=List.getElem?_eq_getElem hk'
    obtain ⟨k1,k2⟩:=cz (hx.2 k _ u hp hu) (e3 k _ _ hp he)
    exact ⟨_,_,hp,he,k1,k2⟩
  have husz : ∀ u ∈ xs.map ρ,u.cells.size = i.size:=by
    intro u hu
    obtain ⟨k,hk,rfl⟩:=List.mem_iff_getElem.1 hu
    obtain ⟨p,el,hp,he,_,g⟩:=hcells k _ (List.getElem?_eq_getElem hk)
    have:=g.1
    rw [e2 el (List.mem_of_getElem? he)] at this
    simpa using this.symm
  obtain ⟨vs',hvs',hvsz,hrun⟩:=bslice_run (w:=w) h ht hi hpf hlen hpos hcap hz1 (by rw [hz2]) husz
  have hall:Reps w (okn ok m) D m false es.flatten vs'.toList:=by
    rw [hvs']
    refine fb (by simp; have:=hx.1; simp at this; omega) fun k el l he hl=>?_
    rw [List.getElem?_map] at hl
    obtain ⟨u,hu,rfl⟩:=Option.map_eq_some_iff.1 hl
    obtain ⟨p,el',hp,he',g1,g⟩:=hcells k u hu
    rw [he] at he'
    injection he' with he'
    subst he'
    exact g
  have hone : ∀ v ∈ vs'.toList,v.oneCell' = true:=by
    intro v hv
    rw [hvs'] at hv
    obtain ⟨l,hl,hv⟩:=List.mem_flatten.1 hv
    obtain ⟨u,hu,rfl⟩:=List.mem_map.1 hl
    obtain ⟨k,hk,rfl⟩:=List.mem_iff_getElem.1 hu
    obtain ⟨p,el,hp,he,g1,g⟩:=hcells k _ (List.getElem?_eq_getElem hk)
    exact g1 v hv
  refine Out.new hH hnx (.box es.flatten) _ len _ hrun (fun m' D' hst hD hm=>?_) (fun m' D' hst hD hm hd hn=>?_)
  · refine ⟨vs',e,heap_alloc_new w _,by have:=hall.1; simpa using this.symm,fun j p hp=>?_⟩
    have hj:j < vs'.toList.length:=by rw [← hall.1]; exact (List.getElem?_eq_some_iff.1 hp).1
    have hv:=List.getElem?_eq_getElem hj
    refine ⟨_,by rw [← Array.getElem?_toList]; exact hv,hone _ (List.mem_of_getElem? hv),(hall.2 j p _ hp hv).step hst hD hm⟩
  · refine .own hd rfl fun B e'=>?_
    rw [hn] at e'
    injection e' with e'
    subst e'
    refine ⟨⟨w.heap.size,0,none⟩,len,by rw [hpl],rfl,rfl,.inl (by simp),by omega,by omega,?_⟩
    have:len * 1 ≤ len * i.size:=Nat.mul_le_mul_left _ hpos
    simp only [maxLen]; omega
theorem core_bslice {t e:TypeId} {len:Nat} {parts:Array (Nat × Operand)} {i:TypeInfo} {xs:List Operand} {ps:List PVal} (h:o.op = .buildSlice t len parts) (ht:P.underlying t = some (.slice e)) (hi:P.info? e = some i) (hpf:partsFull 0 parts.toList = some xs)
    (hlen:xs.length = len) (hpos:0 < i.size) (hcap:len * i.size ≤ 2 ^ 24) (hz:(i.zero.map fun z=>z.cells.size) = some i.size) (hH:SimH D m ok heap w) (hnx : ¬ D nx) (hx:Reps w (okn ok m) D m false ps (xs.map ρ))
    (hc:core (.bslice i.size e) ps heap nx = some r):Out P o ρ D m ok heap w r:=by
  simp only [core] at hc
  cases hes:elemsOf i.size ps with
  | none =>
    simp only [hes] at hc
    split at hc
    · rename_i es hcl
      injection hc with hc
      subst hc
      exact core_bsliceB h ht hi hpf hlen hpos hcap hz hH hnx hx hcl
    · cases hc
  | some es =>
    simp only [hes,Option.some.injEq] at hc
    subst hc
    obtain ⟨e1,e2,e3⟩:=dK hes
    obtain ⟨z,hz1,hz2⟩:=Option.map_eq_some_iff.1 hz
    have hpl:ps.length = len:=by have:=hx.1; simp at this; omega
    have hparts:=ct hpf
    have hcells : ∀ (k:Nat) (u:Value),(xs.map ρ)[k]? = some u → ∃ p el,ps[k]? = some p ∧ es[k]? = some el ∧ (∀ v ∈ u.cells.toList,v.oneCell' = true) ∧ Reps w (okn ok m) D m true el u.cells.toList:=by
      intro k u hu
      have hk:k < ps.length:=by rw [hx.1]; exact (List.getElem?_eq_some_iff.1 hu).1
      have hk':k < es.length:=by omega
      have hp:=List.getElem?_eq_getElem hk
      have he:=List.getElem?_eq_getElem hk'
      obtain ⟨g1,g2⟩:=e3 k _ _ hp he
      obtain ⟨k1,k2⟩:=cz ((hx.2 k _ u hp hu).close g2) g1
      exact ⟨_,_,hp,he,k1,k2⟩
    have husz : ∀ u ∈ xs.map ρ,u.cells.size = i.size:=by
      intro u hu
      obtain ⟨k,hk,rfl⟩:=List.mem_iff_getElem.1 hu
      obtain ⟨p,el,hp,he,_,g⟩:=hcells k _ (List.getElem?_eq_getElem hk)
      have:=g.1
      rw [e2 el (List.mem_of_getElem? he)] at this
      simpa using this.symm
    obtain ⟨vs',f1,f2⟩:=ex (size:=i.size) (xs.map ρ) 0 ((Array.range (len * i.size)).map (fun j=>z.cells[j % z.cells.size]!)) husz (by simp [hlen])
    have hvs':vs'.toList = ((xs.map ρ).map (·.cells.toList)).flatten:=by
      rw [f2]
      simp [hlen]
    have hfl:=bk (ls:=(xs.map ρ).map (·.cells.toList)) (sz:=i.size) (fun l hl=>by
      obtain ⟨u,hu,rfl⟩:=List.mem_map.1 hl
      simpa using husz u hu)
    have hvsz:vs'.size = len * i.size:=by
      rw [← Array.length_toList,hvs',hfl]
      simp [hlen]
    have hrun:(execOp ρ o).run P w = .ok (.value (.slice (some ⟨w.heap.size,0,none⟩) len len)) (w.alloc (.cells vs' e)):=by
      unfold execOp
      simp only [h]
      have hids:(Array.map (fun x:Nat × Operand=>(x.1,ρ x.2)) parts).toList = idxd 0 (xs.map ρ):=by
        rw [Array.toList_map,hparts]
        exact fh ρ 0 xs
      simp only [Sem.run_bind,Instr.buildSlice,run_underlying ht,Result.andThen_ok,aQ hi]
      rw [if_neg (by omega)]
      by_cases h0:len * i.size = 0
      · simp only [h0,if_true] at f1 ⊢
        simp only [Sem.run_bind,Sem.run_pure,Result.andThen_ok]
        have hl0:xs = []:=by
          have:len = 0:=by
            rcases Nat.mul_eq_zero.1 h0 with h' | h'
            · exact h'
            · omega
          exact List.eq_nil_of_length_eq_zero (by omega)
        subst hl0
        simp only [List.map_nil,idxd,Instr.fill] at f1 hids
        injection f1 with f1
        subst f1
        rw [hids]
        simp [Instr.fill,newRow,Array.range_zero']
      · simp only [h0,if_false]
        simp only [Sem.run_bind,Sem.run_pure,Result.andThen_ok,zeroValue,typeInfo,run_program,hi,hz1]
        rw [hids,f1]
        simp [newRow]
    refine Out.new hH hnx (.row i.size e es) _ len _ hrun (fun m' D' hst hD hm=>?_) (fun m' D' hst hD hm hd hn=>?_)
    · refine fa (ls:=(xs.map ρ).map (·.cells.toList)) (heap_alloc_new w _) hvsz (by rw [hvs']; exact List.prefix_rfl) (by omega) (by
        have:len * 1 ≤ len * i.size:=Nat.mul_le_mul_left _ hpos
        simp only [maxLen]; omega) hpos e2 (fun l hl=>by
          obtain ⟨u,hu,rfl⟩:=List.mem_map.1 hl
          simpa using husz u hu) (by simp [hlen]; omega) (fun l hl v hv=>?_) (fun k e' l he' hl=>?_)
      · obtain ⟨u,hu,rfl⟩:=List.mem_map.1 hl
        obtain ⟨k,hk,rfl⟩:=List.mem_iff_getElem.1 hu
        obtain ⟨p,el,hp,he,g1,g⟩:=hcells k _ (List.getElem?_eq_getElem hk)
        exact g1 v hv
      · rw [List.getElem?_map] at hl
        obtain ⟨u,hu,rfl⟩:=Option.map_eq_some_iff.1 hl
        obtain ⟨p,el,hp,he,g1,g⟩:=hcells k u hu
        rw [he'] at he
        injection he with he
        subst he
        exact g.mono fun p v hr=>hr.step hst hD hm
    · refine .own hd rfl fun B e'=>?_
      rw [hn] at e'
      injection e' with e'
      subst e'
      refine ⟨⟨w.heap.size,0,none⟩,len,by rw [hpl],rfl,rfl,.inl (by simp),by omega,by omega,?_⟩
      have:len * 1 ≤ len * i.size:=Nat.mul_le_mul_left _ hpos
      simp only [maxLen]; omega
theorem fQ (hH:SimH D m ok heap w) {p:PVal} {v:Value} {sz:Nat} {es:List (List PVal)} {rh:List AId} (hp:Rep w (okn ok m) D m false p v) (he:elems heap p = some (sz,es,rh)) :
    ∃ A n cap,v = .slice A n cap ∧ n = es.length ∧ (∀ e ∈ es,e.length = sz) ∧
      (0 < n → ∃ ad,A = some ad ∧ ∃ ls:List (List Value),ls.length = es.length ∧ (∀ l ∈ ls,l.length = sz) ∧ (∀ l ∈ ls,∀ u ∈ l,u.oneCell' = true) ∧ (∀ (i:Nat) (e:List PVal) (l:List Value),es[i]? = some e → ls[i]? = some l → Reps w (okn ok m) D m true e l) ∧
        ∀ (j:Nat) (u:Value),ls.flatten[j]? = some u → w.cell? (ad.add j) = some u):=by
  cases p <;> simp only [elems] at he
  case ro sz' es' =>
    injection he with he
    injection he with h1 h2
    injection h2 with h2 h3
    subst h1 h2 h3
    cases hp with
    | @ro _ _ _ A n cap ad vs hn hc hm hs hA hcell h =>
      refine ⟨A,n,cap,rfl,hn.symm,hs,fun hpos=>⟨ad,hA hpos,(List.range es'.length).map (fun i=>(List.range sz').map (vs i)),by simp,fun l hl=>?_,fun l hl u hu=>?_,fun i e l he hl=>?_,fun j u hu=>?_⟩⟩
      · obtain ⟨i,_,rfl⟩:=List.mem_map.1 hl
        simp
      · obtain ⟨i,hi,rfl⟩:=List.mem_map.1 hl
        obtain ⟨j,hj,rfl⟩:=List.mem_map.1 hu
        have hi:=List.mem_range.1 hi
        have hj:=List.mem_range.1 hj
        exact (hcell i j _ _ (List.getElem?_eq_getElem hi) (List.getElem?_eq_getElem (by rw [hs _ (List.getElem_mem hi)]; exact hj))).2.2
      · have hi:=(List.getElem?_eq_some_iff.1 he).1
        rw [List.getElem?_map,List.getElem?_range hi] at hl
        injection hl with hl
        subst hl
        have hel:=hs e (List.mem_of_getElem? he)
        refine ⟨by simp [hel],fun j p u hp' hu=>?_⟩
        have hj:j < sz':=by rw [← hel]; exact (List.getElem?_eq_some_iff.1 hp').1
        rw [List.getElem?_map,List.getElem?_range hj] at hu
        injection hu with hu
        subst hu
        exact h i j e p he hp'
      · have hfl:=bk (ls:=(List.range es'.length).map (fun i=>(List.range sz').map (vs i))) (sz:=sz') (fun l hl=>by obtain ⟨i,_,rfl⟩:=List.mem_map.1 hl; simp)
        have hj:=(List.getElem?_eq_some_iff.1 hu).1
        rw [hfl] at hj
        simp only [List.length_map,List.length_range] at hj
        have hsz:0 < sz':=by rcases Nat.eq_zero_or_pos sz' with h0 | h0; · subst h0; omega
                             · exact h0
        have hi:j / sz' < es'.length:=(Nat.div_lt_iff_lt_mul hsz).2 hj
        have hjm:j % sz' < sz':=Nat.mod_lt _ hsz
        have hg:=cK (ls:=(List.range es'.length).map (fun i=>(List.range sz').map (vs i))) (i:=j / sz') (j:=j % sz') (l:=(List.range sz').map (vs (j / sz'))) (fun l hl=>by obtain ⟨i,_,rfl⟩:=List.mem_map.1 hl; simp)
          (by rw [List.getElem?_map,List.getElem?_range hi]; rfl) hjm
        have hdm:j / sz' * sz' + j % sz' = j:=Nat.div_add_mod' j sz'
        rw [hdm,hu,List.getElem?_map,List.getElem?_range hjm] at hg
        injection hg with hg
        subst hg
        have:=(hcell (j / sz') (j % sz') _ _ (List.getElem?_eq_getElem hi) (List.getElem?_eq_getElem (by rw [hs _ (List.getElem_mem hi)]; exact hjm))).2.1
        rwa [hdm] at this
  case own id sz' lo n =>
    cases ho:heap id with
    | none=>simp [ho] at he
    | some ob =>
      cases ob <;> simp only [ho] at he
      case row sz'' ty es' =>
        split at he
        · rename_i hcond
          obtain ⟨hsz,hle⟩:=hcond
          subst hsz
          injection he with he
          injection he with h1 h2
          injection h2 with h2 h3
          subst h1 h2 h3
          obtain ⟨B,hB,hob⟩:=hH.obj id _ ho
          cases hp with
          | own hd _ hv =>
            have hv:=hv B hB
            cases B with
            | nil =>
              obtain ⟨⟨A0,g1⟩,g2,g3⟩:=hv
              obtain ⟨rfl,_⟩:=hob
              subst g2 g3
              exact ⟨A0,0,0,g1,by simp,fun e he=>by simp at he,fun h=>by omega⟩
            | «at» b tot =>
              obtain ⟨a,cap,g1,g2,g3,g4,g5,g6,g7⟩:=hv
              have hob':=hob
              obtain ⟨vs,k1,k2,k3,k4,k5,k6,k7⟩:=hob
              have hlen:((es'.drop lo).take n).length = n:=by simp; omega
              have hgete : ∀ i,i < n → ((es'.drop lo).take n)[i]? = es'[lo + i]?:=fun i hi=>by rw [List.getElem?_take,if_pos hi,List.getElem?_drop]
              refine ⟨some a,n,cap,g1,hlen.symm,fun e he=>k6 e (List.mem_of_mem_drop (List.mem_of_mem_take he)),fun hpos=>⟨a,rfl,(List.range n).map (fun i=>(vs.toList.drop ((lo + i) * sz'')).take sz''),by simp [hlen],fun l hl=>?_,fun l hl u hu=>?_,fun i e l he hl=>?_,fun j u hu=>?_⟩⟩
              · obtain ⟨i,hi,rfl⟩:=List.mem_map.1 hl
                have hi:=List.mem_range.1 hi
                have hm:(lo + i + 1) * sz'' ≤ tot * sz'':=Nat.mul_le_mul_right _ (by omega)
                rw [Nat.succ_mul] at hm
                simp [k2]; omega
              · obtain ⟨i,hi,rfl⟩:=List.mem_map.1 hl
                have hi:=List.mem_range.1 hi
                obtain ⟨vs2,q1,q2,q3,q4,q5⟩:=dm hob' (i:=lo + i) (by omega)
                rw [k1] at q1
                injection q1 with q1
                injection q1 with q1
                subst q1
                exact q3 u hu
              · have hi:i < n:=by rw [← hlen]; exact (List.getElem?_eq_some_iff.1 he).1
                rw [List.getElem?_map,List.getElem?_range hi] at hl
                injection hl with hl
                subst hl
                rw [hgete i hi] at he
                obtain ⟨vs2,q1,q2,q3,q4,q5⟩:=dm hob' (i:=lo + i) (by omega)
                rw [k1] at q1
                injection q1 with q1
                injection q1 with q1
                subst q1
                have:es'.getD (lo + i) [] = e:=by simp [List.getD,he]
                rw [this] at q2
                exact q2
              · have hls : ∀ l ∈ (List.range n).map (fun i=>(vs.toList.drop ((lo + i) * sz'')).take sz''),l.length = sz'':=by
                  intro l hl
                  obtain ⟨i,hi,rfl⟩:=List.mem_map.1 hl
                  have hi:=List.mem_range.1 hi
                  have hm:(lo + i + 1) * sz'' ≤ tot * sz'':=Nat.mul_le_mul_right _ (by omega)
                  rw [Nat.succ_mul] at hm
                  simp [k2]; omega
                have hfl:=bk hls
                have hj:=(List.getElem?_eq_some_iff.1 hu).1
                rw [hfl] at hj
                simp only [List.length_map,List.length_range] at hj
                have hi:j / sz'' < n:=(Nat.div_lt_iff_lt_mul k5).2 hj
                have hjm:j % sz'' < sz'':=Nat.mod_lt _ k5
                have hg:=cK hls (i:=j / sz'') (j:=j % sz'') (l:=(vs.toList.drop ((lo + j / sz'') * sz'')).take sz'') (by rw [List.getElem?_map,List.getElem?_range hi]; rfl) hjm
                have hdm:j / sz'' * sz'' + j % sz'' = j:=Nat.div_add_mod' j sz''
                rw [hdm,hu,List.getElem?_take,if_pos hjm,List.getElem?_drop,Array.getElem?_toList] at hg
                have hao:a.off = lo * sz'':=by rcases g4 with g4 | g4; exact g4; omega
                obtain ⟨ab,ao,as⟩:=a
                simp only at g2 g3 hao
                subst g2 g3 hao
                rw [bx,dO k1,show lo * sz'' + j = (lo + j / sz'') * sz'' + j % sz'' by rw [Nat.add_mul]; omega]
                exact hg.symm
        · cases he
      all_goals cases he
  all_goals cases he
end
section
variable {P:Program} {o:Oper} {ρ:Operand → Value} {D:AId → Prop} {m:AId → Option Blk} {ok:Nat → Prop} {heap:AId → Option AObj} {w:World} {nx:AId} {r:R}
theorem SimH.weakObj (hH:SimH D m ok heap w) {id:AId} {ob o':AObj} (ho:heap id = some ob) (h : ∀ B,m id = some B → RepObj w ok D m ob B → RepObj w ok D m o' B) :
  SimH D m ok (fun j=>if j = id then some o' else heap j) w :=
 ⟨fun j ob' hj=>by
  by_cases e:j = id
  ·subst e
   rw [if_pos rfl] at hj
   injection hj with hj
   subst hj
   obtain ⟨B,hB,hob⟩:=hH.obj _ _ ho
   exact ⟨B,hB,h B hB hob⟩
  ·rw [if_neg e] at hj
   exact hH.obj _ _ hj,hH.dom,hH.inj,hH.lt,hH.okm,hH.fresh,hH.glob⟩
theorem knownL_get {es:List (List PVal)} (h:knownL es = true) {i j:Nat} {e:List PVal} {p:PVal} (he:es[i]? = some e) (hp:e[j]? = some p):p ≠ .undef:=by
 rintro rfl
 simp only [knownL,List.all_eq_true] at h
 have:=h e (List.mem_of_getElem? he) _ (List.mem_of_getElem? hp)
 simp [PVal.isU] at this
theorem eR {sz ty q:Nat} {es:List (List PVal)} {B:Blk} (hk:knownL (es.take q) = true) (h:RepObj w ok D m (.full sz ty es) B):RepObj w ok D m (.row sz ty (es.take q)) B:=by
 cases B with
 | nil=>obtain ⟨rfl,h2⟩:=h; exact ⟨by simp,h2⟩
 | «at» b tot =>
  obtain ⟨vs,h1,h2,h3,h4,h5,h6,h7⟩:=h
  refine ⟨vs,h1,h2,by simp; omega,h4,h5,fun e he=>h6 e (List.mem_of_mem_take he),fun i j e p he hp=>?_⟩
  rcases h7 i j e p (bW he) hp with h | h
  ·exact absurd h (knownL_get hk he hp)
  ·exact h
theorem row_full {sz ty:Nat} {es:List (List PVal)} {B:Blk} (h:RepObj w ok D m (.row sz ty es) B) : ∃ k,RepObj w ok D m (.full sz ty (es ++ List.replicate k (List.replicate sz .undef))) B:=by
 cases B with
 | nil=>obtain ⟨rfl,h2⟩:=h; exact ⟨0,by simp,h2⟩
 | «at» b tot =>
  obtain ⟨vs,h1,h2,h3,h4,h5,h6,h7⟩:=h
  refine ⟨tot - es.length,vs,h1,h2,by simp; omega,h4,h5,fun e he=>?_,fun i j e p he hp=>?_⟩
  ·rcases List.mem_append.1 he with he | he
   ·exact h6 e he
   ·rw [List.eq_of_mem_replicate he]; simp
  ·by_cases hi:i < es.length
   ·rw [List.getElem?_append_left hi] at he
    exact .inr (h7 i j e p he hp)
   ·rw [List.getElem?_append_right (by omega)] at he
    left
    rw [List.eq_of_mem_replicate (List.mem_of_getElem? he)] at hp
    exact List.eq_of_mem_replicate (List.mem_of_getElem? hp)
def ElemsAre (w:World) (ok:Nat → Prop) (D:AId → Prop) (m:AId → Option Blk) (sz:Nat) (es:List (List PVal)) (A:Option Addr):Prop :=
 (∀ e ∈ es,e.length = sz) ∧ (0 < es.length → ∃ ad,A = some ad ∧ ∃ ls:List (List Value),ls.length = es.length ∧ (∀ l ∈ ls,l.length = sz) ∧ (∀ l ∈ ls,∀ u ∈ l,u.oneCell' = true) ∧
  (∀ (i:Nat) (e:List PVal) (l:List Value),es[i]? = some e → ls[i]? = some l → Reps w (okn ok m) D m true e l) ∧ ∀ (j:Nat) (u:Value),ls.flatten[j]? = some u → w.cell? (ad.add j) = some u)
theorem ElemsAre.take {sz:Nat} {es:List (List PVal)} {A:Option Addr} (h:ElemsAre w ok D m sz es A) (k:Nat):ElemsAre w ok D m sz (es.take k) A:=by
 refine ⟨fun e he=>h.1 e (List.mem_of_mem_take he),fun hpos=>?_⟩
 obtain ⟨ad,hA,ls,h1,h2,h3,h4,h5⟩:=h.2 (by simp at hpos; omega)
 refine ⟨ad,hA,ls.take k,by simp [h1],fun l hl=>h2 l (List.mem_of_mem_take hl),fun l hl=>h3 l (List.mem_of_mem_take hl),fun i e l he hl=>h4 i e l (bW he) (bW hl),fun j u hu=>h5 j u ?_⟩
 have:ls.flatten = (ls.take k).flatten ++ (ls.drop k).flatten:=by rw [← List.flatten_append,List.take_append_drop]
 rw [this,List.getElem?_append_left (List.getElem?_eq_some_iff.1 hu).1]
 exact hu
theorem dv (hH:SimH D m ok heap w) {p:PVal} {v:Value} {sz:Nat} {es:List (List PVal)} {rh:List AId} (hp:Rep w (okn ok m) D m false p v) (he:elems heap p = some (sz,es,rh)) :
  ∃ A n cap,v = .slice A n cap ∧ n = es.length ∧ ElemsAre w ok D m sz es A:=by
 obtain ⟨A,n,cap,h1,h2,h3,h4⟩:=fQ hH hp he
 exact ⟨A,n,cap,h1,h2,h3,fun h=>h4 (by omega)⟩
theorem eU (hH:SimH D m ok heap w) {p:PVal} {v:Value} {sz k:Nat} {es:List (List PVal)} {rh:List AId} (hp:Rep w (okn ok m) D m false p v) (he:elemsU heap k p = some (sz,es,rh)) :
  ∃ A n cap,v = .slice A n cap ∧ n = lenP p ∧ es.length = min k n ∧ ElemsAre w ok D m sz es A:=by
 cases p <;> simp only [elemsU] at he
 case ro sz' es' =>
  simp only [Option.some.injEq,Prod.mk.injEq] at he
  obtain ⟨rfl,rfl,rfl⟩:=he
  obtain ⟨A,n,cap,h1,h2,h3⟩:=dv hH hp (by simp only [elems]; rfl)
  exact ⟨A,n,cap,h1,by simp [lenP,h2],by simp [h2],h3.take k⟩
 case own id sz' lo n =>
  cases ho:heap id with
  | none=>simp [ho] at he
  | some ob =>
   cases ob <;> simp only [ho] at he
   case row sz'' ty es' =>
    split at he
    ·rename_i hc
     simp only [Option.some.injEq,Prod.mk.injEq] at he
     obtain ⟨rfl,rfl,rfl⟩:=he
     obtain ⟨A,n',cap,h1,h2,h3⟩:=dv (es:=(es'.drop lo).take n) (sz:=sz') (rh:=[id]) hH hp (by simp only [elems,ho]; rw [if_pos hc])
     have hl:((es'.drop lo).take n).length = n:=by simp; omega
     exact ⟨A,n',cap,h1,by simp only [lenP]; omega,by rw [List.length_take,hl]; omega,h3.take k⟩
    ·cases he
   case full sz'' ty es' =>
    split at he
    ·rename_i hc
     obtain ⟨c1,c2,c3⟩:=hc
     subst c1
     simp only [Option.some.injEq,Prod.mk.injEq] at he
     obtain ⟨rfl,rfl,rfl⟩:=he
     obtain ⟨B,hB,hob⟩:=hH.obj id _ ho
     cases hp with
     | own hd h1 hp =>
      have hv : ∃ A cap,v = .slice A n cap ∧ n ≤ cap:=by
       have:=hp B hB
       cases B with
       | nil=>obtain ⟨⟨A,e⟩,_,e3⟩:=this; exact ⟨A,0,by rw [e,e3],by omega⟩
       | «at» b t=>obtain ⟨a,cap,e,_,_,_,e3,_⟩:=this; exact ⟨some a,cap,e,e3⟩
      obtain ⟨A,cap,rfl,hnc⟩:=hv
      have hH':=hH.weakObj ho (o':=.row sz'' ty (es'.take (lo + min k n))) (fun B _ hob=>eR c3 hob)
      have hp':Rep w (okn ok m) D m false (.own id sz'' lo (min k n)) (.slice A (min k n) cap):=by
       refine .own hd rfl fun B' hB'=>?_
       have:=hp B' hB'
       cases B' with
       | nil=>obtain ⟨⟨A',e⟩,e2,e3⟩:=this; injection e with e4 e5 e6; subst e6; exact ⟨⟨A,by congr 1; omega⟩,e2,by omega⟩
       | «at» b t =>
        obtain ⟨a,cap',e,g1,g2,g3,g4,g5⟩:=this
        injection e with e1 e2 e3
        subst e1 e3
        exact ⟨a,cap,rfl,g1,g2,g3,by omega,g5⟩
      have hl:((es'.drop lo).take n).take k = ((es'.take (lo + min k n)).drop lo).take (min k n):=by
       rw [List.take_take,List.drop_take,List.take_take]
       congr 1
       omega
      obtain ⟨A',n',cap',h1',h2',h3'⟩:=dv (es:=((es'.take (lo + min k n)).drop lo).take (min k n)) (sz:=sz'') (rh:=[id]) hH' hp' (by
       simp only [elems,if_true]
       rw [if_pos ⟨trivial,by simp; omega⟩])
      injection h1' with e1 e2 e3
      subst e1
      rw [hl]
      refine ⟨A,n,cap,rfl,rfl,?_,h3'⟩
      rw [← h2',← e2]
    ·cases he
   all_goals cases he
 all_goals cases he
theorem bJ {es es2:List (List PVal)} {lo:Nat} (h:lo + es2.length ≤ es.length):(overE es lo es2).length = es.length:=by
 simp [overE]; omega
theorem overE_get {es es2:List (List PVal)} {lo:Nat} (h:lo + es2.length ≤ es.length) (i:Nat):(overE es lo es2)[i]? = if lo ≤ i ∧ i < lo + es2.length then es2[i - lo]? else es[i]?:=by
 unfold overE
 by_cases h1:i < lo
 ·rw [if_neg (by omega),List.append_assoc,List.getElem?_append_left (by simp; omega),List.getElem?_take,if_pos h1]
 ·by_cases h2:i < lo + es2.length
  ·rw [if_pos ⟨by omega,h2⟩,List.append_assoc,List.getElem?_append_right (by simp; omega),List.getElem?_append_left (by simp; omega)]
   congr 1
   simp
   omega
  ·rw [if_neg (by omega),List.getElem?_append_right (by simp; omega),List.getElem?_drop]
   congr 1
   simp
   omega
theorem fN {w':World} {D':AId → Prop} {m':AId → Option Blk} {sz ty lo b tot:Nat} {es es2:List (List PVal)} {ls:List (List Value)} {vs vs':Array Value} (hob:RepObj w ok D m (.full sz ty es) (.at b tot))
  (hb:w.heap[b]? = some (.cells vs ty (0,0))) (hb':w'.heap[b]? = some (.cells vs' ty (0,0))) (hs:vs'.size = vs.size)
  (hat : ∀ j,vs'.toList[j]? = if lo * sz ≤ j ∧ j < lo * sz + ls.flatten.length then ls.flatten[j - lo * sz]? else vs.toList[j]?)
  (hll:ls.length = es2.length) (hls : ∀ l ∈ ls,l.length = sz) (h1 : ∀ l ∈ ls,∀ u ∈ l,u.oneCell' = true) (hes2 : ∀ e ∈ es2,e.length = sz)
  (hr : ∀ (k:Nat) (e:List PVal) (l:List Value),es2[k]? = some e → ls[k]? = some l → Reps w (okn ok m) D m true e l) (hfit:lo + es2.length ≤ es.length)
  (hst : ∀ p v,Rep w (okn ok m) D m true p v → Rep w' (okn ok m') D' m' true p v):RepObj w' ok D' m' (.full sz ty (overE es lo es2)) (.at b tot):=by
 obtain ⟨vs0,g1,g2,g3,g4,g5,g6,g7⟩:=hob
 rw [hb] at g1
 injection g1 with g1
 injection g1 with g1
 subst g1
 have hfl:=bk hls
 rw [hll] at hfl
 refine ⟨vs',hb',by rw [hs,g2],by rw [bJ hfit,g3],g4,g5,fun e he=>?_,fun i j e p he hp=>?_⟩
 ·simp only [overE,List.mem_append] at he
  rcases he with (he | he) | he
  ·exact g6 e (List.mem_of_mem_take he)
  ·exact hes2 e he
  ·exact g6 e (List.mem_of_mem_drop he)
 ·rw [overE_get hfit] at he
  have hatj:=hat (i * sz + j)
  rw [hfl] at hatj
  by_cases hin:lo ≤ i ∧ i < lo + es2.length
  ·rw [if_pos hin] at he
   right
   have hj:j < sz:=by rw [← hes2 e (List.mem_of_getElem? he)]; exact (List.getElem?_eq_some_iff.1 hp).1
   have e1:i * sz = lo * sz + (i - lo) * sz:=by rw [← Nat.add_mul]; congr 1; omega
   have e2:(i - lo + 1) * sz ≤ es2.length * sz:=Nat.mul_le_mul_right _ (by omega)
   rw [Nat.succ_mul] at e2
   rw [if_pos (by omega)] at hatj
   have hil:i - lo < ls.length:=by omega
   have hg:=cK hls (List.getElem?_eq_getElem hil) hj
   rw [show i * sz + j - lo * sz = (i - lo) * sz + j by omega,hg] at hatj
   have hlen:=hls _ (List.getElem_mem hil)
   have hjl:j < ls[i - lo].length:=by rw [hlen]; exact hj
   rw [List.getElem?_eq_getElem hjl] at hatj
   exact ⟨ls[i - lo][j],by rw [← Array.getElem?_toList]; exact hatj,h1 _ (List.getElem_mem hil) _ (List.getElem_mem hjl),hst _ _ ((hr _ e _ he (List.getElem?_eq_getElem hil)).2 j p _ hp (List.getElem?_eq_getElem hjl))⟩
  ·rw [if_neg hin] at he
   have hj:j < sz:=by rw [← g6 e (List.mem_of_getElem? he)]; exact (List.getElem?_eq_some_iff.1 hp).1
   have hne : ¬ (lo * sz ≤ i * sz + j ∧ i * sz + j < lo * sz + es2.length * sz):=by
    rintro ⟨q1,q2⟩
    rcases Nat.lt_or_ge i lo with hlt | hge
    ·have:=Nat.mul_le_mul_right sz (show i + 1 ≤ lo from hlt)
     rw [Nat.succ_mul] at this
     omega
    ·have:=Nat.mul_le_mul_right sz (show lo + es2.length ≤ i by omega)
     rw [Nat.add_mul] at this
     omega
   rw [if_neg hne] at hatj
   rcases g7 i j e p he hp with h | ⟨u,k1,k2,k3⟩
   ·exact .inl h
   ·exact .inr ⟨u,by rw [← Array.getElem?_toList,hatj,Array.getElem?_toList]; exact k1,k2,hst _ _ k3⟩
theorem eB (hH:SimH D m ok heap w) {id:AId} {b tot:Nat} (hB:m id = some (.at b tot)) (obj:AObj) (rh:List AId) {w':World} {v:Value} {p:PVal} (hr:(execOp ρ o).run P w = .ok (.value v) w')
  (hos:w'.os = w.os) (ht:w'.tape = w.tape) (hou:w'.output = w.output) (hsz:w'.heap.size = w.heap.size) (hk : ∀ k,k ≠ b → w'.heap[k]? = w.heap[k]?)
  (hobj:Step m w m w' → RepObj w' ok D m obj (.at b tot)) (hp:Rep w' (okn ok m) D m false p v) :
  Out P o ρ D m ok heap w { v:=p,rh,wh:=[(id,some obj)] }:=by
 have hm':(fun i=>if i = id then some (Blk.at b tot) else if some id = some i then none else m i) = m:=by
  funext i
  by_cases e:i = id
  ·subst e; simp [hB]
  ·have : ¬ id = i:=fun e'=>e e'.symm
   simp [e,this]
 have hD':(fun i=>D i ∨ i = id) = D:=by
  funext i
  have:i = id → D i:=fun e=>by subst e; exact hH.dom _ _ hB
  exact propext ⟨fun h=>h.elim (fun h=>h) this,.inl⟩
 obtain ⟨h1,h2,h3⟩:=hH.reloc (w':=w') (some id) id (.at b tot) obj hos ht hou (by omega)
  (fun k hk' hn=>hk k (fun e=>hn id tot rfl (by rw [e]; exact hB))) (.inl ⟨rfl,hB⟩)
  (fun b' t' e=>by injection e with e1 e2; subst e1; exact ⟨by rw [hsz]; exact hH.lt _ _ _ hB,.inr ⟨id,tot,rfl,hB⟩⟩)
  (fun hst=>by rw [hm'] at hst ⊢; rw [hD']; exact hobj hst)
 rw [hm'] at h1 h2
 rw [hD'] at h1
 refine ⟨v,w',D,m,.inl hr,?_,h2,hp,fun i=>by simp,fun _ _=>.inl rfl⟩
 rw [dt]
 have:(fun i=>if i = id then some obj else heap i) = (fun i=>if i = id then some obj else if some id = some i then none else heap i):=by
  funext i
  by_cases e:i = id
  ·simp [e]
  ·have : ¬ id = i:=fun e'=>e e'.symm
   simp [e,this]
 rw [this]
 exact h1
theorem Out.moved (hH:SimH D m ok heap w) (hnx : ¬ D nx) {id:AId} {b tot sz k:Nat} (hB:m id = some (.at b tot)) (obj:AObj) (rh:List AId) {w':World} {v:Value} (hr:(execOp ρ o).run P w = .ok (.value v) w')
  (hos:w'.os = w.os) (ht:w'.tape = w.tape) (hou:w'.output = w.output) (hsz:w'.heap.size = w.heap.size) (hk : ∀ k,k ≠ b → w'.heap[k]? = w.heap[k]?)
  (hobj : ∀ (m':AId → Option Blk) (D':AId → Prop),(∀ p v,Rep w (okn ok m) D m true p v → Rep w' (okn ok m') D' m' true p v) → RepObj w' ok D' m' obj (.at b tot)) (hv:OwnVal (.at b tot) sz 0 k v) (h1v:v.oneCell' = true) :
  Out P o ρ D m ok heap w { v:=.own nx sz 0 k,rh,wh:=[(nx,some obj),(id,none)],nw:=[nx] }:=by
 obtain ⟨h1,h2,h3⟩:=hH.reloc (w':=w') (some id) nx (.at b tot) obj hos ht hou (by omega)
  (fun k hk' hn=>hk k (fun e=>hn id tot rfl (by rw [e]; exact hB))) (.inr hnx)
  (fun b' t' e=>by injection e with e1 e2; subst e1; exact ⟨by rw [hsz]; exact hH.lt _ _ _ hB,.inr ⟨id,tot,rfl,hB⟩⟩)
  (fun hst=>hobj _ _ fun p v hrp=>hrp.step hst (fun _=>.inl) (by
   intro j hd
   by_cases e1:j = nx
   ·subst e1; exact absurd hd hnx
   ·by_cases e2:some id = some j
    ·right; simp [e1,e2]
    ·left; simp [e1,e2]))
 refine ⟨v,w',(fun i=>D i ∨ i = nx),_,.inl hr,?_,h2,.own (.inr rfl) h1v fun B' hB'=>?_,fun i=>by simp,h3⟩
 ·rw [gP]; exact h1
 ·simp only [if_true,Option.some.injEq] at hB'
  subst hB'
  exact hv
theorem ij (hH:SimH D m ok heap w) (hnx : ¬ D nx) {sz ty n cap:Nat} {es:List (List PVal)} {ls:List (List Value)} {vs:Array Value} (rh:List AId)
  (hr:(execOp ρ o).run P w = .ok (.value (.slice (some ⟨w.heap.size,0,none⟩) n cap)) (w.drew.alloc (.cells vs ty))) (hn:n = es.length) (hcap:n ≤ cap) (hmax:cap ≤ maxLen) (hvs:vs.size = cap * sz) (hpre:ls.flatten <+: vs.toList) (hsz:0 < sz)
  (hes : ∀ e ∈ es,e.length = sz) (hls : ∀ l ∈ ls,l.length = sz) (hll:ls.length = es.length) (h1 : ∀ l ∈ ls,∀ u ∈ l,u.oneCell' = true)
  (hrep : ∀ (k:Nat) (e:List PVal) (l:List Value),es[k]? = some e → ls[k]? = some l → Reps w (okn ok m) D m true e l) :
  Out P o ρ D m ok heap w { v:=.own nx sz 0 n,rh,wh:=[(nx,some (.row sz ty es))],nw:=[nx] }:=by
 obtain ⟨g1,g2,g3⟩:=hH.reloc (w':=w.drew.alloc (.cells vs ty)) none nx (.at w.heap.size cap) (.row sz ty es) rfl rfl rfl (by simp) (fun b hb _=>heap_alloc_old w.drew _ hb) (.inr hnx)
  (fun b t e=>by injection e with e _; subst e; exact ⟨by simp,.inl (Nat.le_refl _)⟩)
  (fun hst=>fa (heap_alloc_new w.drew _) hvs hpre (by omega) hmax hsz hes hls hll h1 fun k e l he hl=>(hrep k e l he hl).mono fun p v hrp=>hrp.step hst (fun _=>.inl) (by
   intro j hd
   by_cases e1:j = nx
   ·subst e1; exact absurd hd hnx
   ·left; simp [e1]))
 refine ⟨_,_,(fun i=>D i ∨ i = nx),_,.inl hr,?_,g2,.own (.inr rfl) rfl fun B' hB'=>?_,fun i=>by simp,g3⟩
 ·rw [dt]; simpa using g1
 ·simp only [if_true,Option.some.injEq] at hB'
  subst hB'
  exact ⟨⟨w.heap.size,0,none⟩,cap,rfl,rfl,rfl,.inl (by simp),hcap,by omega,hmax⟩
theorem d6 {b tot sz lo n:Nat} {v:Value} (h:OwnVal (.at b tot) sz lo n v) (hr:0 < n ∨ lo = 0) : ∃ cap,v = .slice (some ⟨b,lo * sz,none⟩) n cap ∧ n ≤ cap ∧ lo + cap = tot ∧ tot ≤ maxLen:=by
 obtain ⟨a,cap,rfl,h1,h2,h3,h4,h5,h6⟩:=h
 obtain ⟨ab,ao,as⟩:=a
 simp only at h1 h2 h3
 subst h1 h2
 refine ⟨cap,?_,h4,h5,h6⟩
 rcases h3 with h3 | ⟨h3,h3'⟩
 ·rw [h3]
 ·omega
theorem cD {bi:Builtin} {args:Array Operand} {ats:Array TypeId} {s x:Operand} {t t':TypeId} (h:o.op = .call { callee:=.builtin bi,args,argTypes:=ats }) (ha:args.toList = [s,x]) (hat:ats.toList = [t,t']) :
  o.op = .call { callee:=.builtin bi,args:=#[s,x],argTypes:=#[t,t'] }:=by
 have ha':args = #[s,x]:=by rw [← Array.toArray_toList (xs:=args),ha]
 have hat':ats = #[t,t']:=by rw [← Array.toArray_toList (xs:=ats),hat]
 rw [h,ha',hat']
theorem core_capL {args:Array Operand} {ats:Array TypeId} {x:Operand} {t e:TypeId} {p:PVal} (h:o.op = .call { callee:=.builtin .cap,args,argTypes:=ats }) (ha:args.toList = [x]) (hat:ats.toList = [t]) (hd:P.underlying t = some (.slice e))
  (hH:SimH D m ok heap w) (hx:Rep w (okn ok m) D m false p (ρ x)) (hc:core .capL [p] heap nx = some r):Out P o ρ D m ok heap w r:=by
 have ha':args = #[x]:=by rw [← Array.toArray_toList (xs:=args),ha]
 have hat':ats = #[t]:=by rw [← Array.toArray_toList (xs:=ats),hat]
 have key : ∀ a n c,ρ x = .slice a n c → (execOp ρ o).run P w = .ok (.value (.int .i64 c)) w:=by
  intro a n c e
  unfold execOp
  simp only [h,ha',hat']
  simp [resolve,invoke,builtin,e,Builtin.cap_,run_underlying hd,goInt]
 cases p <;> simp only [core] at hc <;> try (cases hc; done)
 case nils =>
  injection hc with hc
  subst hc
  exact aC hH _ (key _ _ _ (bv hx)) .int
 case own id sz lo n =>
  cases ho:heap id with
  | none=>simp [ho] at hc
  | some ob =>
   cases ob <;> simp only [ho] at hc <;> try (cases hc; done)
   case full sz' ty es =>
    split at hc
    ·rename_i hle
     injection hc with hc
     subst hc
     obtain ⟨B,hB,hob⟩:=hH.obj id _ ho
     cases hx with
     | own hd' _ hp =>
      have hv:=hp B hB
      cases B with
      | nil =>
       obtain ⟨⟨A0,e1⟩,e2,e3⟩:=hv
       obtain ⟨rfl,_⟩:=hob
       have:=aC (P:=P) (o:=o) (ρ:=ρ) hH [id] (key _ _ _ e1) (p:=.int .i64 (0:Nat)) .int
       simpa using this
      | «at» b tt =>
       obtain ⟨a,cap,e1,_,_,_,_,e2,_⟩:=hv
       obtain ⟨vs,g1,g2,g3,_⟩:=hob
       have:es.length - lo = cap:=by omega
       rw [this]
       exact aC hH _ (key _ _ _ e1) .int
    ·cases hc
theorem core_copy {args:Array Operand} {ats:Array TypeId} {d s:Operand} {t t' e:TypeId} {i:TypeInfo} {p q:PVal} (h:o.op = .call { callee:=.builtin .copy,args,argTypes:=ats }) (ha:args.toList = [d,s]) (hat:ats.toList = [t,t'])
  (ht:P.underlying t = some (.slice e)) (hi:P.info? e = some i) (hH:SimH D m ok heap w) (hd:Rep w (okn ok m) D m false p (ρ d)) (hx:Rep w (okn ok m) D m false q (ρ s)) (hc:core (.copy i.size) [p,q] heap nx = some r) (hf : ∃ id sz1 lo n sz' ty es,p = .own id sz1 lo n ∧ heap id = some (.full sz' ty es)):Out P o ρ D m ok heap w r:=by
 have hop:=cD h ha hat
 cases p <;> simp only [core] at hc <;> try (cases hc; done)
 case own id sz1 lo n =>
  cases ho:heap id with
  | none=>simp [ho] at hc
  | some ob =>
   cases ob <;> simp only [ho] at hc <;> try (cases hc; done)
   case row sz' ty es=>obtain ⟨_,_,_,_,_,_,_,h1,h2⟩:=hf; injection h1 with h1 _ _ _; subst h1; rw [ho] at h2; cases h2
   case full sz' ty es =>
    cases hel:elemsU heap n q with
    | none=>simp [hel] at hc
    | some y =>
     obtain ⟨sz2,es2,rh2⟩:=y
     simp only [hel] at hc
     split at hc
     ·rename_i hcond
      obtain ⟨c1,c2,c3,c4,c5⟩:=hcond
      subst c1 c2 c3
      injection hc with hc
      subst hc
      obtain ⟨A2,n2,cap2,x1,x2,x3,x4⟩:=eU hH hx hel
      obtain ⟨B,hB,hob⟩:=hH.obj id _ ho
      cases hd with
      | own hd' _ hp =>
       have hv:=hp B hB
       cases B with
       | nil=>obtain ⟨_,_,e3⟩:=hv; omega
       | «at» b tot =>
        obtain ⟨cap,e1,e2,e3,e4⟩:=d6 hv (.inl c5)
        have hob':=hob
        obtain ⟨vs,g1,g2,g3,g4,g5,g6,g7⟩:=hob
        have hmin:Nat.min n2 n = es2.length:=by rw [x3]; exact Nat.min_comm _ _
        obtain ⟨ls,y1,y2,y3,y4,y5⟩ : ∃ ls:List (List Value),ls.length = es2.length ∧ (∀ l ∈ ls,l.length = i.size) ∧ (∀ l ∈ ls,∀ u ∈ l,u.oneCell' = true) ∧
          (∀ (k:Nat) (e:List PVal) (l:List Value),es2[k]? = some e → ls[k]? = some l → Reps w (okn ok m) D m true e l) ∧
          (Builtin.firstCells i.size es2.length (ρ s)).run P w = .ok ls.flatten.toArray w:=by
         rcases Nat.eq_zero_or_pos es2.length with h0 | hpos
         ·have he2:es2 = []:=List.eq_nil_of_length_eq_zero h0
          subst he2
          refine ⟨[],rfl,fun l hl=>by simp at hl,fun l hl=>by simp at hl,fun k e l he=>by simp at he,?_⟩
          rw [x1]
          cases A2 <;> simp [Builtin.firstCells,loadCells,loadCellsFrom]
         ·obtain ⟨ad,hA,ls,y1,y2,y3,y4,y5⟩:=x4.2 hpos
          refine ⟨ls,y1,y2,y3,y4,?_⟩
          have:=run_loadCells_list (P:=P) w ad ls.flatten y5
          rw [bk y2,y1] at this
          rw [x1,hA]
          simpa [Builtin.firstCells] using this
        have hfl:=bk y2
        rw [y1] at hfl
        have hle:lo * i.size + es2.length * i.size ≤ vs.size:=by
         rw [g2,← Nat.add_mul]
         exact Nat.mul_le_mul_right _ (by omega)
        obtain ⟨w',vs',r1,r2,r3,r4,r5,r6,r7,r8,r9⟩:=bF (P:=P) ls.flatten w b (lo * i.size) vs ty 0 g1 (by rw [hfl]; omega) (fun u hu=>by obtain ⟨l,hl,hu⟩:=List.mem_flatten.1 hu; exact y3 l hl u hu)
        have hrun:(execOp ρ o).run P w = .ok (.value (.int .i64 es2.length)) w':=by
         unfold execOp
         simp only [hop]
         rw [x1] at y5
         have hx1:=x1
         simp [resolve,invoke,builtin,Builtin.copy_,run_underlying ht,e1,x1,Builtin.lenOf,aQ hi,hmin,y5,r1,goInt]
        exact eB hH hB _ _ hrun r5 r6 r7 r8 r9 (fun hst=>fN hob' g1 r2 r3 (by simpa using r4) y1 y2 y3 x4.1 y4 (by omega) (fun p v hrp=>hrp.step hst (fun _ hd=>hd) (fun _ _=>.inl rfl))) .int
     ·cases hc
theorem bT {c:Bool} {zs:List PVal} {l:List Value} (h:Reps w ok D m c zs l) {n k:Nat} {e:List PVal} {l':List Value} (he:(List.replicate n zs)[k]? = some e) (hl:(List.replicate n l)[k]? = some l'):Reps w ok D m c e l':=by
 rw [List.eq_of_mem_replicate (List.mem_of_getElem? he),List.eq_of_mem_replicate (List.mem_of_getElem? hl)]
 exact h
theorem bS (zc:Array Value) (n:Nat):(Builtin.zeroCells zc n).toList = (List.replicate n zc.toList).flatten:=by
 rcases Nat.eq_zero_or_pos zc.size with h0 | hpos
 ·have:zc = #[]:=Array.eq_empty_of_size_eq_zero h0
  subst this
  simp [Builtin.zeroCells]
 ·apply List.ext_getElem?
  intro j
  have hls : ∀ l ∈ List.replicate n zc.toList,l.length = zc.size:=fun l hl=>by rw [List.eq_of_mem_replicate hl]; simp
  by_cases hj:j < n * zc.size
  ·have hdiv:j / zc.size < n:=(Nat.div_lt_iff_lt_mul hpos).2 hj
   have hg:=cK hls (i:=j / zc.size) (j:=j % zc.size) (l:=zc.toList) (by simp [hdiv]) (Nat.mod_lt _ hpos)
   rw [Nat.div_add_mod'] at hg
   rw [hg]
   have hm:j % zc.size < zc.size:=Nat.mod_lt _ hpos
   simp [Builtin.zeroCells,hj,hm]
  ·rw [List.getElem?_eq_none (by simp [Builtin.zeroCells]; omega),List.getElem?_eq_none (by rw [bk hls]; simp; omega)]
theorem core_clear {args:Array Operand} {ats:Array TypeId} {x:Operand} {t e:TypeId} {i:TypeInfo} {z:Value} {zs zs':List PVal} {p:PVal} (h:o.op = .call { callee:=.builtin .clear,args,argTypes:=ats }) (ha:args.toList = [x]) (hat:ats.toList = [t])
  (ht:P.underlying t = some (.slice e)) (hi:P.info? e = some i) (hz:i.zero = some z) (hzz:z.cells.size = i.size) (hzs:zeroC z = some zs) (hH:SimH D m ok heap w) (hx:Rep w (okn ok m) D m false p (ρ x)) (hc:core (.clear i.size zs') [p] heap nx = some r) (hw':Reps w (okn ok m) D m true zs' z.cells.toList) (hf : ∃ id sz1 lo n sz' ty es,p = .own id sz1 lo n ∧ heap id = some (.full sz' ty es)):Out P o ρ D m ok heap w r:=by
 have ha':args = #[x]:=by rw [← Array.toArray_toList (xs:=args),ha]
 have hat':ats = #[t]:=by rw [← Array.toArray_toList (xs:=ats),hat]
 cases p <;> simp only [core] at hc <;> try (cases hc; done)
 case own id sz1 lo n =>
  cases ho:heap id with
  | none=>simp [ho] at hc
  | some ob =>
   cases ob <;> simp only [ho] at hc <;> try (cases hc; done)
   case row sz' ty es=>obtain ⟨_,_,_,_,_,_,_,h1,h2⟩:=hf; injection h1 with h1 _ _ _; subst h1; rw [ho] at h2; cases h2
   case full sz' ty es =>
    split at hc
    ·rename_i hcond
     obtain ⟨c1,c2,c3,c4⟩:=hcond
     subst c1 c2
     injection hc with hc
     subst hc
     obtain ⟨B,hB,hob⟩:=hH.obj id _ ho
     cases hx with
     | own hd' _ hp =>
      have hv:=hp B hB
      cases B with
      | nil=>obtain ⟨_,_,e3⟩:=hv; omega
      | «at» b tot =>
       obtain ⟨cap,e1,e2,e3,e4⟩:=d6 hv (.inl c4)
       have hob':=hob
       obtain ⟨vs,g1,g2,g3,g4,g5,g6,g7⟩:=hob
       obtain ⟨hz1,hz2⟩:=cu (w:=w) (ok:=okn ok m) (D:=D) (m:=m) (c:=true) hzs
       have hls : ∀ l ∈ List.replicate n z.cells.toList,l.length = i.size:=fun l hl=>by rw [List.eq_of_mem_replicate hl]; simpa using hzz
       have h1 : ∀ l ∈ List.replicate n z.cells.toList,∀ u ∈ l,u.oneCell' = true:=fun l hl u hu=>by rw [List.eq_of_mem_replicate hl] at hu; exact hz2 u hu
       have hzl:zs'.length = i.size:=by rw [hw'.1]; simpa using hzz
       have hfl:=bk hls
       simp only [List.length_replicate] at hfl
       have hle:lo * i.size + n * i.size ≤ vs.size:=by
        rw [g2,← Nat.add_mul]
        exact Nat.mul_le_mul_right _ (by omega)
       obtain ⟨w',vs',r1,r2,r3,r4,r5,r6,r7,r8,r9⟩:=bF (P:=P) (List.replicate n z.cells.toList).flatten w b (lo * i.size) vs ty 0 g1 (by rw [hfl]; omega) (fun u hu=>by obtain ⟨l,hl,hu⟩:=List.mem_flatten.1 hu; exact h1 l hl u hu)
       have hrun:(execOp ρ o).run P w = .ok (.value (.tuple #[])) w':=by
        rw [← bS] at r1
        unfold execOp
        simp only [h,ha',hat']
        obtain ⟨n',rfl⟩ : ∃ n',n = n' + 1:=⟨n - 1,by omega⟩
        simp [resolve,invoke,builtin,Builtin.clear_,run_underlying ht,e1,zeroValue,typeInfo,hi,hz,r1]
       exact eB hH hB _ _ hrun r5 r6 r7 r8 r9 (fun hst=>fN hob' g1 r2 r3 (by simpa using r4) (by simp) hls h1 (fun e he=>by rw [List.eq_of_mem_replicate he]; exact hzl) (fun k e l he hl=>bT hw' he hl) (by simp; omega)
        (fun p v hrp=>hrp.step hst (fun _ hd=>hd) (fun _ _=>.inl rfl))) .hole
    ·cases hc
theorem gQ (hH:SimH D m ok heap w) {id:AId} {sz ty n:Nat} {es:List (List PVal)} (ho:heap id = some (.full sz ty es)) (hn:n ≤ es.length) (hk:knownL (es.take n) = true) {v:Value} (hv:Rep w (okn ok m) D m false (.own id sz 0 n) v) :
  ∃ (A:Option Addr) (cap:Nat) (ls:List (List Value)),v = .slice A n cap ∧ ls.length = n ∧ (∀ l ∈ ls,l.length = sz) ∧ (∀ l ∈ ls,∀ u ∈ l,u.oneCell' = true) ∧ (∀ e ∈ es.take n,e.length = sz) ∧
   (∀ (k:Nat) (e:List PVal) (l:List Value),(es.take n)[k]? = some e → ls[k]? = some l → Reps w (okn ok m) D m true e l) ∧ cap = es.length ∧
   (∀ w':World,(∀ b,b < w.heap.size → w'.heap[b]? = w.heap[b]?) → (Builtin.firstCells sz n (.slice A n cap)).run P w' = .ok ls.flatten.toArray w') ∧
   (A = none → n = 0) ∧ (∀ ad,A = some ad → ∀ (j:Nat) (u:Value),ls.flatten[j]? = some u → w.cell? (ad.add j) = some u):=by
 have hH':=hH.weakObj ho (o':=.row sz ty (es.take n)) (fun B _ hob=>eR hk hob)
 have hlen:(es.take n).length = n:=by simp; omega
 obtain ⟨A,n',cap,h1,h2,h3,h4⟩:=dv (es:=((es.take n).drop 0).take n) (sz:=sz) (rh:=[id]) hH' hv (by
  simp only [elems,if_true]
  rw [if_pos ⟨trivial,by omega⟩])
 have he:((es.take n).drop 0).take n = es.take n:=by rw [List.drop_zero,List.take_take,Nat.min_self]
 rw [he] at h2 h3 h4
 have hn':n' = n:=by omega
 subst hn'
 obtain ⟨B,hB,hob⟩:=hH.obj id _ ho
 have hcap:cap = es.length:=by
  cases hv with
  | own _ _ hp =>
   have hov:=hp B hB
   cases B with
   | nil =>
    obtain ⟨⟨A',e⟩,_,_⟩:=hov
    obtain ⟨rfl,_⟩:=hob
    rw [h1] at e
    cases e
    rfl
   | «at» b t =>
    obtain ⟨a,cap',e,_,_,_,_,g4,_⟩:=hov
    obtain ⟨vs,_,_,g3,_⟩:=hob
    rw [h1] at e
    injection e with _ _ e
    omega
 rcases Nat.eq_zero_or_pos n' with h0 | hpos
 ·subst h0
  refine ⟨A,cap,[],h1,rfl,fun l hl=>by simp at hl,fun l hl=>by simp at hl,h3,fun k e l he=>by simp at he,hcap,fun w' _=>?_,fun _=>rfl,fun ad _ j u hu=>by simp at hu⟩
  cases A <;> simp [Builtin.firstCells,loadCells,loadCellsFrom]
 ·obtain ⟨ad,hA,ls,y1,y2,y3,y4,y5⟩:=h4 (by omega)
  refine ⟨A,cap,ls,h1,by omega,y2,y3,h3,y4,hcap,fun w' hw'=>?_,fun e=>(by rw [e] at hA; cases hA),fun ad' e j u hu=>?_⟩
  ·have:=run_loadCells_list (P:=P) w' ad ls.flatten (fun j u hu=>by
    have hc:=y5 j u hu
    have hb:=World.block_lt_of_cell? w _ hc
    rw [← hc]
    exact dw (hw' _ hb))
   rw [bk y2,y1,hlen] at this
   rw [hA]
   simpa [Builtin.firstCells] using this
  ·rw [hA] at e
   injection e with e
   subst e
   exact y5 j u hu
theorem dI {s x:Operand} {t t':TypeId} (hop:o.op = .call { callee:=.builtin .append,args:=#[s,x],argTypes:=#[t,t'] }) {v:Value} {w':World} (hv:(Builtin.append_ #[t,t'] o.type #[ρ s,ρ x]).run P w = .ok v w'):(execOp ρ o).run P w = .ok (.value v) w':=by
 unfold execOp
 simp only [hop]
 simp [resolve,invoke,builtin,hv]
theorem addr_zero_mul {b k q:Nat} (h:(⟨b,0 * k,none⟩ : Addr).add q = ⟨b,q,none⟩):(⟨b,0,none⟩ : Addr).add q = ⟨b,q,none⟩:=by simpa using h
theorem ee {args:Array Operand} {ats:Array TypeId} {s x:Operand} {t e:TypeId} {i:TypeInfo} {z:Value} {id sz1 lo n sz1' ty1 sz2:Nat} {es es2:List (List PVal)} {rh2:List AId}
  (h:o.op = .call { callee:=.builtin .append,args,argTypes:=ats }) (ha:args.toList = [s,x]) (hat:ats.toList = [t,t])
  (ht:P.underlying t = some (.slice e)) (hi:P.info? e = some i) (hz:i.zero = some z) (hpos:0 < i.size) (hzs:z.cells.size = i.size) (hH:SimH D m ok heap w) (hnx : ¬ D nx) (hs:Rep w (okn ok m) D m false (.own id sz1 lo n) (ρ s))
  (ho:heap id = some (.full sz1' ty1 es)) {A2:Option Addr} {n2 cap2:Nat} (hx:ρ x = .slice A2 n2 cap2) (hn2:n2 = es2.length) (hel:ElemsAre w ok D m sz2 es2 A2)
  (hc:coreAppF nx i.size e i.bytes id sz1 lo n sz1' ty1 es sz2 es2 rh2 = some r):Out P o ρ D m ok heap w r:=by
 have hop:=cD h ha hat
 unfold coreAppF at hc
 split at hc
 ·rename_i hcond
  obtain ⟨c1,c2,c3,c4,c5,c6⟩:=hcond
  subst c1 c2 c3 c4 c5
  rcases Nat.eq_zero_or_pos es2.length with hz2 | c7
  ·
   rw [if_pos (by omega)] at hc
   injection hc with hc
   subst hc
   have he2:es2 = []:=List.eq_nil_of_length_eq_zero hz2
   subst he2
   have hov:overE es n [] = es:=by simp [overE]
   rw [hov]
   simp only [List.length_nil,Nat.add_zero] at hn2 ⊢
   subst hn2
   obtain ⟨B,hB,hob⟩:=hH.obj id _ ho
   cases hs with
   | own hd h1v hp =>
    have hv:=hp B hB
    obtain ⟨A,cap,hA,hnc⟩ : ∃ A cap,ρ s = .slice A n cap ∧ n ≤ cap:=by
     cases B with
     | nil=>obtain ⟨⟨A,e⟩,_,e3⟩:=hv; exact ⟨A,0,by rw [e,e3],by omega⟩
     | «at» b t=>obtain ⟨a,cap,e,_,_,_,e3,_⟩:=hv; exact ⟨some a,cap,e,e3⟩
    have hrun:(execOp ρ o).run P w = .ok (.value (ρ s)) w:=by
     unfold execOp
     simp only [hop]
     rw [hA]
     cases A <;> cases A2 <;> simp [resolve,invoke,builtin,Builtin.append_,run_underlying ht,hA,hx,Builtin.lenOf,Builtin.firstCells,aQ hi,hnc,loadCells,loadCellsFrom,storeCells]
    cases B with
    | nil =>
     obtain ⟨he0,hsz0⟩:=hob
     subst he0
     obtain ⟨g1,g2,g3⟩:=hH.reloc (w':=w) (some id) nx .nil (.full i.size ty1 []) rfl rfl rfl (Nat.le_refl _) (fun b hb hn=>rfl) (.inr hnx) (fun b t' e=>by cases e) (fun hst=>⟨rfl,hsz0⟩)
     refine ⟨_,w,(fun i=>D i ∨ i = nx),_,.inl hrun,?_,g2,.own (.inr rfl) h1v fun B' hB'=>?_,fun i=>by simp,g3⟩
     ·rw [gP]; exact g1
     ·simp only [if_true,Option.some.injEq] at hB'
      subst hB'
      exact hv
    | «at» b tot =>
     exact Out.moved hH hnx hB _ _ hrun rfl rfl rfl rfl (fun _ _=>rfl) (fun m' D' hst=>by
      obtain ⟨vs,h1,h2,h3,h4,h5,h6,h7⟩:=hob
      exact ⟨vs,h1,h2,h3,h4,h5,h6,fun i j e p he hp=>by
       rcases h7 i j e p he hp with h | ⟨v,k1,k2,k3⟩
       ·exact .inl h
       ·exact .inr ⟨v,k1,k2,hst p v k3⟩⟩) hv h1v
  obtain ⟨ad,hA,ls,y1,y2,y3,y4,y5⟩:=hel.2 c7
  have hfl:=bk y2
  rw [y1] at hfl
  have hx':ρ x = .slice (some ad) es2.length cap2:=by rw [hx,hA,hn2]
  split at hc
  ·rename_i hroom
   injection hc with hc
   subst hc
   obtain ⟨B,hB,hob⟩:=hH.obj id _ ho
   cases hs with
   | own hd _ hp =>
    have hv:=hp B hB
    cases B with
    | nil =>
     obtain ⟨rfl,_⟩:=hob
     simp only [List.length_nil] at hroom
     omega
    | «at» b tot =>
     obtain ⟨cap,e1,e2,e3,e4⟩:=d6 hv (.inr rfl)
     have hob':=hob
     obtain ⟨vs,g1,g2,g3,g4,g5,g6,g7⟩:=hob
     have hle:n * i.size + es2.length * i.size ≤ vs.size:=by
      rw [g2,← Nat.add_mul]
      exact Nat.mul_le_mul_right _ (by omega)
     obtain ⟨w',vs',r1,r2,r3,r4,r5,r6,r7,r8,r9⟩:=bF (P:=P) ls.flatten w b (n * i.size) vs ty1 0 g1 (by rw [hfl]; omega) (fun u hu=>by obtain ⟨l,hl,hu⟩:=List.mem_flatten.1 hu; exact y3 l hl u hu)
     have hf:(loadCells ad (es2.length * i.size)).run P w = .ok ls.flatten.toArray w:=by
      have:=run_loadCells_list (P:=P) w ad ls.flatten y5
      rwa [hfl] at this
     have hadd:(⟨b,0 * i.size,none⟩ : Addr).add (n * i.size) = ⟨b,n * i.size,none⟩:=by unfold Addr.add; simp; intro hh; exact hh.symm
     have hncap:n + es2.length ≤ cap:=by omega
     have hrun:(execOp ρ o).run P w = .ok (.value (.slice (some ⟨b,0 * i.size,none⟩) (n + es2.length) cap)) w':=by
      unfold execOp
      simp only [hop]
      simp [resolve,invoke,builtin,Builtin.append_,run_underlying ht,e1,hx',Builtin.lenOf,Builtin.firstCells,aQ hi,hf,hncap,r1,addr_zero_mul hadd]
     exact Out.moved hH hnx hB _ _ hrun r5 r6 r7 r8 r9 (fun m' D' hst=>fN hob' g1 r2 r3 (by simpa using r4) y1 y2 y3 hel.1 y4 (by omega) hst) ⟨⟨b,0 * i.size,none⟩,cap,rfl,rfl,rfl,.inl rfl,hncap,e3,e4⟩ rfl
  ·rename_i hroom
   split at hc
   ·rename_i hcond2
    obtain ⟨d1,d2,d3⟩:=hcond2
    injection hc with hc
    subst hc
    obtain ⟨A,cap,ls0,z1,z2,z3,z4,z5,z6,z7,z8,z9,z10⟩:=gQ (P:=P) hH ho c6 d3 hs
    have hfl0:=bk z3
    rw [z2] at hfl0
    have hsmall:((n + es2.length:Nat):Int) ≤ 9223372036854775807:=by simp only [maxLen] at d2; omega
    have hge:=grownCap_ge w (n + es2.length) cap ty1
    have hcm:=grownCap_le_maxLen w (n + es2.length) cap ty1 d2
    have hrun:(Builtin.append_ #[t,t] o.type #[ρ s,ρ x]).run P w = .ok (.slice (some ⟨w.heap.size,0,none⟩) (n + es2.length) (grownCap w (n + es2.length) cap ty1)) (w.drew.alloc (.cells (ls0.flatten.toArray ++ ls.flatten.toArray ++ Builtin.zeroCells z.cells (grownCap w (n + es2.length) cap ty1 - (n + es2.length))) ty1)):=by
     rw [z1,hx']
     cases A with
     | some b0=>exact run_append_grow (P:=P) w t o.type ty1 i z ht hi hz b0 n cap ls0.flatten hfl0 (z10 b0 rfl) ad es2.length cap2 ls.flatten hfl y5 (by omega) hsmall (growslice_fits (by omega) d1)
     | none =>
      have hn0:=z9 rfl
      subst hn0
      have hl0:ls0 = []:=List.eq_nil_of_length_eq_zero z2
      have hcap0:cap = 0:=by
       have:Rep w (okn ok m) D m false (.own id i.size 0 0) (.slice none 0 cap):=by rw [← z1]; exact hs
       obtain ⟨B,hB,hob⟩:=hH.obj id _ ho
       cases this with
       | own _ _ hp =>
        have hov:=hp B hB
        cases B with
        | nil=>obtain ⟨⟨A',e⟩,_,_⟩:=hov; injection e
        | «at» b t=>obtain ⟨a,cap',e,_⟩:=hov; cases e
      subst hcap0 hl0
      have hr:=run_append_nil (P:=P) w t o.type ty1 i z ht hi hz ad es2.length cap2 ls.flatten hfl y5 (by omega) (by omega) (by simpa using Nat.le_trans d1 (by omega))
      simpa using hr
    refine ij hH hnx (ls:=ls0 ++ ls) _ (dI hop hrun) (by simp; omega) hge hcm ?_ ?_ hpos (fun e he=>by rcases List.mem_append.1 he with he | he; exact z5 e he; exact hel.1 e he) (fun l hl=>by rcases List.mem_append.1 hl with hl | hl; exact z3 l hl; exact y2 l hl)
     (by simp [z2,y1]; omega) (fun l hl=>by rcases List.mem_append.1 hl with hl | hl; exact z4 l hl; exact y3 l hl) (fun k e l he hl=>?_)
    ·simp only [Array.size_append,List.size_toArray,size_zeroCells,hzs,hfl0,hfl,← Nat.add_mul]
     congr 1
     omega
    ·simp only [Array.toList_append,List.flatten_append]
     exact List.prefix_append _ _
    ·by_cases hk:k < n
     ·rw [List.getElem?_append_left (by simp; omega)] at he
      rw [List.getElem?_append_left (by omega)] at hl
      exact z6 k e l he hl
     ·rw [List.getElem?_append_right (by simp; omega)] at he
      rw [List.getElem?_append_right (by omega),z2] at hl
      have:(List.take n es).length = n:=by simp; omega
      rw [this] at he
      exact y4 _ e l he hl
   ·cases hc
 ·cases hc
theorem core_appendZ {args:Array Operand} {ats:Array TypeId} {s x:Operand} {t tn e:TypeId} {i:TypeInfo} {z:Value} {zs:List PVal} {kn:IntKind} {p q:PVal} (h:o.op = .call { callee:=.builtin .append,args,argTypes:=ats }) (ha:args.toList = [s,x]) (hat:ats.toList = [t,tn])
  (ht:P.underlying t = some (.slice e)) (htn:P.underlying tn = some (.int kn)) (hi:P.info? e = some i) (hz:i.zero = some z) (hpos:0 < i.size) (hzz:z.cells.size = i.size) (hzs:zeroC z = some zs) (hH:SimH D m ok heap w) (hnx : ¬ D nx)
  (hs:Rep w (okn ok m) D m false p (ρ s)) (hx:Rep w (okn ok m) D m false q (ρ x)) (hc:core (.appendZ i.size e i.bytes zs) [p,q] heap nx = some r):Out P o ρ D m ok heap w r:=by
 have hop:=cD h ha hat
 cases p <;> cases q <;> simp only [core] at hc <;> try (cases hc; done)
 case nils.int kq k =>
  split at hc
  ·rename_i hcond
   obtain ⟨c6,c7,c8⟩:=hcond
   injection hc with hc
   subst hc
   obtain ⟨k,rfl⟩ : ∃ k':Nat,k = k':=⟨k.toNat,by omega⟩
   simp only [Int.toNat_natCast] at c6 c7 c8 ⊢
   have hk:0 < k:=by omega
   obtain ⟨hz1,hz2⟩:=cu (w:=w) (ok:=okn ok m) (D:=D) (m:=m) (c:=true) hzs
   have hls : ∀ l ∈ List.replicate k z.cells.toList,l.length = i.size:=fun l hl=>by rw [List.eq_of_mem_replicate hl]; simpa using hzz
   have h1 : ∀ l ∈ List.replicate k z.cells.toList,∀ u ∈ l,u.oneCell' = true:=fun l hl u hu=>by rw [List.eq_of_mem_replicate hl] at hu; exact hz2 u hu
   have hzl:zs.length = i.size:=by rw [hz1.1]; simpa using hzz
   have hge:=grownCap_ge w (0 + k) 0 e
   have hcm:=grownCap_le_maxLen w (0 + k) 0 e (by omega)
   have hrun:(Builtin.append_ #[t,tn] o.type #[ρ s,ρ x]).run P w = .ok (.slice (some ⟨w.heap.size,0,none⟩) (0 + k) (grownCap w (0 + k) 0 e)) (w.drew.alloc (.cells (([]:List Value).toArray ++ Builtin.zeroCells z.cells k ++ Builtin.zeroCells z.cells (grownCap w (0 + k) 0 e - (0 + k))) e)):=by
    rw [bv hs,aP hx]
    exact Lib.run_append_grow_zeros (P:=P) w t tn o.type e i z kq kn ht htn hi hz none 0 0 [] (by simp [Builtin.firstCells,loadCells,loadCellsFrom]) k hk hpos (by omega) (by simp only [maxLen] at c8; omega) (by omega) (growslice_fits (by omega) (by rw [Nat.zero_add]; omega))
   rw [Nat.zero_add] at hge hcm hrun
   refine ij hH hnx (ls:=List.replicate k z.cells.toList) _ (dI hop hrun) (by simp) hge hcm ?_ ?_ hpos (fun e he=>by rw [List.eq_of_mem_replicate he]; exact hzl) hls
    (by simp) h1 (fun k' e l he hl=>bT hz1 he hl)
   ·simp only [Array.size_append,List.size_toArray,size_zeroCells,hzz,List.length_nil,Nat.zero_add]
    rw [← Nat.add_mul]
    congr 1
    omega
   ·simp only [Array.toList_append,List.nil_append,bS]
    exact List.prefix_append _ _
  ·cases hc
 rename_i id sz1 lo n kq k
 cases ho:heap id with
 | none=>simp [ho] at hc
 | some ob =>
  cases ob <;> simp only [ho] at hc <;> try (cases hc; done)
  case full sz' ty es =>
   split at hc
   ·rename_i hcond
    obtain ⟨c1,c2,c3,c4,c5,c6,c7,c8,c9⟩:=hcond
    subst c1 c2 c3
    injection hc with hc
    subst hc
    obtain ⟨k,rfl⟩ : ∃ k':Nat,k = k':=⟨k.toNat,by omega⟩
    simp only [Int.toNat_natCast] at c6 c7 c8 ⊢
    have hk:0 < k:=by omega
    obtain ⟨A,cap,ls0,z1,z2,z3,z4,z5,z6,z7,z8,z9,z10⟩:=gQ (P:=P) hH ho c4 c9 hs
    obtain ⟨hz1,hz2⟩:=cu (w:=w) (ok:=okn ok m) (D:=D) (m:=m) (c:=true) hzs
    have hfl0:=bk z3
    rw [z2] at hfl0
    have hls : ∀ l ∈ List.replicate k z.cells.toList,l.length = i.size:=fun l hl=>by rw [List.eq_of_mem_replicate hl]; simpa using hzz
    have h1 : ∀ l ∈ List.replicate k z.cells.toList,∀ u ∈ l,u.oneCell' = true:=fun l hl u hu=>by rw [List.eq_of_mem_replicate hl] at hu; exact hz2 u hu
    have hzl:zs.length = i.size:=by rw [hz1.1]; simpa using hzz
    have hfl:=bk hls
    simp only [List.length_replicate] at hfl
    have hge:=grownCap_ge w (n + k) cap e
    have hcm:=grownCap_le_maxLen w (n + k) cap e c8
    have hkb:k * i.bytes ≤ (n + k) * i.bytes:=Nat.mul_le_mul_right _ (by omega)
    have hrun:(Builtin.append_ #[t,tn] o.type #[ρ s,ρ x]).run P w = .ok (.slice (some ⟨w.heap.size,0,none⟩) (n + k) (grownCap w (n + k) cap e)) (w.drew.alloc (.cells (ls0.flatten.toArray ++ Builtin.zeroCells z.cells k ++ Builtin.zeroCells z.cells (grownCap w (n + k) cap e - (n + k))) e)):=by
     rw [z1,aP hx]
     exact Lib.run_append_grow_zeros (P:=P) w t tn o.type e i z kq kn ht htn hi hz A n cap ls0.flatten (z8 w.drew fun b _=>rfl) k hk hpos (by omega) (by simp only [maxLen] at c8; omega) (by omega) (growslice_fits (by omega) c7)
    refine ij hH hnx (ls:=ls0 ++ List.replicate k z.cells.toList) _ (dI hop hrun) (by simp; omega) hge hcm ?_ ?_ hpos (fun e he=>by rcases List.mem_append.1 he with he | he; exact z5 e he; rw [List.eq_of_mem_replicate he]; exact hzl) (fun l hl=>by rcases List.mem_append.1 hl with hl | hl; exact z3 l hl; exact hls l hl)
     (by simp [z2]; omega) (fun l hl=>by rcases List.mem_append.1 hl with hl | hl; exact z4 l hl; exact h1 l hl) (fun k' e l he hl=>?_)
    ·simp only [Array.size_append,List.size_toArray,size_zeroCells,hzz,hfl0,← Nat.add_mul]
     congr 1
     omega
    ·simp only [Array.toList_append,List.flatten_append,bS]
     exact List.prefix_append _ _
    ·by_cases hk':k' < n
     ·rw [List.getElem?_append_left (by simp; omega)] at he
      rw [List.getElem?_append_left (by omega)] at hl
      exact z6 k' e l he hl
     ·rw [List.getElem?_append_right (by simp; omega)] at he
      rw [List.getElem?_append_right (by omega),z2] at hl
      have:(List.take n es).length = n:=by simp; omega
      rw [this] at he
      exact bT hz1 he hl
   ·cases hc
end
section
variable {P:Program} {o:Oper} {ρ:Operand → Value} {D:AId → Prop} {m:AId → Option Blk} {ok:Nat → Prop} {heap:AId → Option AObj} {w:World} {nx:AId} {r:R}
theorem f7 {args:Array Operand} {ats:Array TypeId} {s x:Operand} {t:TypeId} (h:o.op = .call { callee:=.builtin .append,args,argTypes:=ats }) (ha:args.toList = [s,x]) (hat:ats.toList = [t,t]) {v:Value} {w':World}
  (hv:(Builtin.append_ #[t,t] o.type #[ρ s,ρ x]).run P w = .ok v w'):(execOp ρ o).run P w = .ok (.value v) w':=by
 have ha':args = #[s,x]:=by rw [← Array.toArray_toList (xs:=args),ha]
 have hat':ats = #[t,t]:=by rw [← Array.toArray_toList (xs:=ats),hat]
 unfold execOp
 simp only [h,ha',hat']
 simp [resolve,invoke,builtin,hv]
theorem own_row (hH:SimH D m ok heap w) {id:AId} {sz ty:Nat} {es:List (List PVal)} (ho:heap id = some (.row sz ty es)) (hnil:m id ≠ some .nil) {v:Value} (hv:Rep w (okn ok m) D m false (.own id sz 0 es.length) v) :
  ∃ (ls:List (List Value)),ls.length = es.length ∧ (∀ l ∈ ls,l.length = sz) ∧ (∀ l ∈ ls,∀ u ∈ l,u.oneCell' = true) ∧ (∀ (i:Nat) (e:List PVal) (l:List Value),es[i]? = some e → ls[i]? = some l → Reps w (okn ok m) D m true e l) ∧
   w.ownsRow 0 ty sz v es.length ls.flatten ∧ (∀ e ∈ es,e.length = sz) ∧ 0 < sz ∧ ∀ k,v.ownBlock = some k → ∃ t,m id = some (.at k t):=by
 obtain ⟨B,hB,hob⟩:=hH.obj id _ ho
 cases hv with
 | own hd _ hp =>
  have hv:=hp B hB
  cases B with
  | nil=>exact absurd hB hnil
  | «at» b tot =>
   obtain ⟨a,cap,g1,g2,g3,g4,g5,g6,g7⟩:=hv
   have hob':=hob
   obtain ⟨vs,k1,k2,k3,k4,k5,k6,k7⟩:=hob
   have hls : ∀ l ∈ (List.range es.length).map (fun i=>(vs.toList.drop (i * sz)).take sz),l.length = sz:=by
    intro l hl
    obtain ⟨i,hi,rfl⟩:=List.mem_map.1 hl
    have hi:=List.mem_range.1 hi
    have hm:(i + 1) * sz ≤ tot * sz:=Nat.mul_le_mul_right _ (by omega)
    rw [Nat.succ_mul] at hm
    simp [k2]; omega
   have hflat:((List.range es.length).map (fun i=>(vs.toList.drop (i * sz)).take sz)).flatten = vs.toList.take (es.length * sz):=by
    apply List.ext_getElem?
    intro j
    have hfl:=bk hls
    simp only [List.length_map,List.length_range] at hfl
    by_cases hj:j < es.length * sz
    ·have hi:j / sz < es.length:=(Nat.div_lt_iff_lt_mul k5).2 hj
     have hjm:j % sz < sz:=Nat.mod_lt _ k5
     have hg:=cK hls (i:=j / sz) (j:=j % sz) (l:=(vs.toList.drop (j / sz * sz)).take sz) (by rw [List.getElem?_map,List.getElem?_range hi]; rfl) hjm
     have hdm:j / sz * sz + j % sz = j:=Nat.div_add_mod' j sz
     rw [hdm,List.getElem?_take,if_pos hjm,List.getElem?_drop,hdm] at hg
     rw [hg,List.getElem?_take,if_pos hj]
    ·rw [List.getElem?_eq_none (by omega),List.getElem?_eq_none (by simp; omega)]
   have htk:(vs.toList.take (es.length * sz)).length = es.length * sz:=by
    have hv1:vs.toList.length = tot * sz:=by rw [Array.length_toList]; exact k2
    rw [List.length_take,hv1]
    exact Nat.min_eq_left (Nat.mul_le_mul_right _ k3)
   refine ⟨(List.range es.length).map (fun i=>(vs.toList.drop (i * sz)).take sz),by simp,hls,fun l hl u hu=>?_,fun i e l he hl=>?_,⟨by rw [hflat]; exact htk,?_⟩,k6,k5,fun k hk=>?_⟩
   ·obtain ⟨i,hi,rfl⟩:=List.mem_map.1 hl
    have hi:=List.mem_range.1 hi
    obtain ⟨vs2,q1,q2,q3,q4,q5⟩:=dm hob' hi
    rw [k1] at q1; injection q1 with q1; injection q1 with q1; subst q1
    exact q3 u hu
   ·have hi:=(List.getElem?_eq_some_iff.1 he).1
    rw [List.getElem?_map,List.getElem?_range hi] at hl
    injection hl with hl
    subst hl
    obtain ⟨vs2,q1,q2,q3,q4,q5⟩:=dm hob' hi
    rw [k1] at q1; injection q1 with q1; injection q1 with q1; subst q1
    have:es.getD i [] = e:=by simp [List.getD,he]
    rw [this] at q2
    exact q2
   ·refine .inr ⟨b,cap,vs,?_,Nat.zero_le _,k1,g5,by omega,by rw [k2]; congr 1; omega,by rw [hflat]⟩
    rw [g1]
    obtain ⟨ab,ao,as⟩:=a
    simp only at g2 g3 g4
    subst g2 g3
    rcases g4 with g4 | g4
    ·subst g4; simp
    ·exact absurd g4.2 (by omega)
   ·rw [g1] at hk
    simp [Value.ownBlock] at hk
    exact ⟨tot,by rw [← hk,g2]; exact hB⟩
theorem row_of_owns {w1:World} {ok:Nat → Prop} {sz ty:Nat} {es:List (List PVal)} {ls:List (List Value)} {v:Value} (hown:w1.ownsRow 0 ty sz v es.length ls.flatten) (hsz:0 < sz) (hes : ∀ e ∈ es,e.length = sz) (hls : ∀ l ∈ ls,l.length = sz) (hll:ls.length = es.length)
  (h1 : ∀ l ∈ ls,∀ u ∈ l,u.oneCell' = true) :
  ∃ B,OwnVal B sz 0 es.length v ∧ (∀ b t,B = .at b t → v.ownBlock = some b) ∧ v.oneCell' = true ∧ ∀ (m':AId → Option Blk) (D':AId → Prop),(∀ (i:Nat) (e:List PVal) (l:List Value),es[i]? = some e → ls[i]? = some l → Reps w1 (okn ok m') D' m' true e l) → RepObj w1 ok D' m' (.row sz ty es) B:=by
 rcases hown.2 with ⟨rfl,h0⟩ | ⟨g,cap,cur,rfl,_,k1,k2,k3,k4,k5⟩
 ·exact ⟨.nil,⟨⟨_,rfl⟩,rfl,h0⟩,(fun b t e=>by cases e),rfl,fun _ _ _=>⟨List.eq_nil_of_length_eq_zero h0,hsz⟩⟩
 ·refine ⟨.at g cap,⟨⟨g,0,none⟩,cap,rfl,rfl,rfl,.inl (by simp),k2,by omega,k3⟩,fun b t e=>by injection e with e1 e2; subst e1; rfl,rfl,fun m' D' hr=>?_⟩
  refine fa k1 k4 ?_ k2 k3 hsz hes hls hll h1 hr
  rw [← k5]
  exact List.take_prefix _ _
theorem append_base0 {t ty e:TypeId} {i:TypeInfo} (ht:P.underlying t = some (.slice e)) (hi:P.info? e = some i) (A A2:Option Addr) (n2 cap2:Nat) (w:World) (hn:0 < n2) (hby:n2 * i.bytes ≤ 140737488355328) :
  (Builtin.append_ #[t,t] ty #[.slice A 0 0,.slice A2 n2 cap2]).run P w = (Builtin.append_ #[t,t] ty #[.slice none 0 0,.slice A2 n2 cap2]).run P w:=by
 cases A with
 | none=>rfl
 | some a =>
  have h1 : ¬ (n2 ≤ 0):=by omega
  have h2:Builtin.nextslicecap n2 0 = n2:=by simp [Builtin.nextslicecap]; omega
  have h3 : ¬ (2 ^ 48 < n2 * i.bytes):=by omega
  simp only [Builtin.append_,List.getElem?_toArray,List.getElem?_cons_zero,List.getElem?_cons_succ,Sem.run_bind,run_underlying ht,Result.andThen_ok,aQ hi,Sem.run_pure,Builtin.lenOf,Nat.zero_add,h1,if_false,Builtin.firstCells]
  simp [loadCells,loadCellsFrom,typeInfo,hi,h2,h3,Nat.ne_of_gt hn]
theorem core_append {args:Array Operand} {ats:Array TypeId} {s x:Operand} {t e:TypeId} {i:TypeInfo} {z:Value} {p q:PVal} (h:o.op = .call { callee:=.builtin .append,args,argTypes:=ats }) (ha:args.toList = [s,x]) (hat:ats.toList = [t,t])
  (ht:P.underlying t = some (.slice e)) (hi:P.info? e = some i) (hz:i.zero = some z) (hpos:0 < i.size) (hzs:z.cells.size = i.size) (hH:SimH D m ok heap w) (hnx : ¬ D nx) (hs:Rep w (okn ok m) D m false p (ρ s)) (hx:Rep w (okn ok m) D m false q (ρ x))
  (hc:core (.append i.size e i.bytes) [p,q] heap nx = some r):Out P o ρ D m ok heap w r:=by
 simp only [core] at hc
 cases hel:elems heap q with
 | none =>
  simp only [hel] at hc
  cases p <;> simp only at hc <;> try (cases hc; done)
  rename_i id sz1 lo n
  cases ho:heap id with
  | none=>simp [ho] at hc
  | some ob =>
   cases ob <;> simp only [ho] at hc <;> try (cases hc; done)
   rename_i sz1' ty1 es
   cases hel2:elemsU heap (lenP q) q with
   | none=>simp [hel2] at hc
   | some y =>
    obtain ⟨sz2,es2,rh2⟩:=y
    simp only [hel2] at hc
    obtain ⟨A2,n2,cap2,x1,x2,x3,x4⟩:=eU hH hx hel2
    exact ee h ha hat ht hi hz hpos hzs hH hnx hs ho x1 (by omega) x4 hc
 | some y =>
  obtain ⟨sz2,es2,rh2⟩:=y
  simp only [hel] at hc
  obtain ⟨A2,n2,cap2,x1,x2,x3,x4⟩:=fQ hH hx hel
  have main : ∀ (s0:Value),(s0 = ρ s ∨ ((∃ A,ρ s = .slice A 0 0) ∧ s0 = .slice none 0 0 ∧ 0 < n2)) → ∀ (es:List (List PVal)) (ls:List (List Value)) (id0:Option AId) (rh:List AId),sz2 = i.size → ls.length = es.length → (∀ l ∈ ls,l.length = i.size) → (∀ l ∈ ls,∀ u ∈ l,u.oneCell' = true) →
    (∀ (k:Nat) (e:List PVal) (l:List Value),es[k]? = some e → ls[k]? = some l → Reps w (okn ok m) D m true e l) → w.ownsRow 0 e i.size s0 es.length ls.flatten → (∀ e ∈ es,e.length = i.size) →
    (∀ k,s0.ownBlock = some k → ∃ i0 t,id0 = some i0 ∧ m i0 = some (.at k t)) → (es.length + es2.length) * i.bytes ≤ 140737488355328 → es.length + es2.length ≤ maxLen → (∀ i0,id0 = some i0 → D i0) →
    ∃ (v:Value) (w':World),(execOp ρ o).run P w = .ok (.value v) w' ∧ ∃ B1,SimH (fun i=>D i ∨ i = nx) (fun i=>if i = nx then some B1 else if id0 = some i then none else m i) ok (fun j=>if j = nx then some (.row i.size e (es ++ es2)) else if id0 = some j then none else heap j) w' ∧
     Step m w (fun i=>if i = nx then some B1 else if id0 = some i then none else m i) w' ∧ OwnVal B1 i.size 0 (es.length + es2.length) v ∧ v.oneCell' = true ∧
     (∀ id,D id → (fun i=>if i = nx then some B1 else if id0 = some i then none else m i) id = m id ∨ (fun i=>if i = nx then some B1 else if id0 = some i then none else m i) id = none):=by
   intro s0 hs0 es ls id0 rh hsz hll hls h1 hr hown hes hblk hby hmx hid0
   subst hsz
   have hrun : ∃ (v':Value) (w':World) (ls2:List (List Value)),(Builtin.append_ #[t,t] o.type #[s0,ρ x]).run P w = .ok v' w' ∧ w'.ownsRow 0 e i.size v' (es.length + es2.length) (ls ++ ls2).flatten ∧ w.grownBy w' s0.ownBlock ∧
     (v'.ownBlock = s0.ownBlock ∨ v'.ownBlock = some w.heap.size) ∧ ls2.length = es2.length ∧ (∀ l ∈ ls2,l.length = i.size) ∧ (∀ l ∈ ls2,∀ u ∈ l,u.oneCell' = true) ∧ (∀ (k:Nat) (e:List PVal) (l:List Value),es2[k]? = some e → ls2[k]? = some l → Reps w (okn ok m) D m true e l):=by
    rcases Nat.eq_zero_or_pos n2 with h0 | hp
    ·have he2:es2 = []:=List.eq_nil_of_length_eq_zero (by omega)
     subst he2
     rw [x1,h0]
     rcases hown.2 with ⟨hv,h00⟩ | ⟨g,cap,cur,hv,_,k1,k2,k3,k4,k5⟩
     ·refine ⟨.slice none 0 0,w,[],?_,by simpa [hv] using hown,⟨rfl,rfl,rfl,Nat.le_refl _,fun _ _ _=>rfl⟩,by left; rw [hv],rfl,fun l hl=>by simp at hl,fun l hl=>by simp at hl,fun k e l he=>by simp at he⟩
      rw [hv]
      cases A2 <;> simp [Builtin.append_,run_underlying ht,aQ hi,Builtin.lenOf,Builtin.firstCells,loadCells,loadCellsFrom]
     ·refine ⟨.slice (some ⟨g,0,none⟩) es.length cap,w,[],?_,by simpa [hv] using hown,⟨rfl,rfl,rfl,Nat.le_refl _,fun _ _ _=>rfl⟩,by left; rw [hv],rfl,fun l hl=>by simp at hl,fun l hl=>by simp at hl,fun k e l he=>by simp at he⟩
      rw [hv]
      cases A2 <;> simp [Builtin.append_,run_underlying ht,aQ hi,Builtin.lenOf,Builtin.firstCells,loadCells,loadCellsFrom,k2,storeCells]
    ·obtain ⟨ad,hA,ls2,y1,y2,y3,y4,y5⟩:=x4 hp
     obtain ⟨v',w',z1,z2,z3,z4,z5⟩:=run_append_own_at (P:=P) w 0 t o.type e i z i.size i.bytes ht hi hz rfl rfl hzs hpos s0 es.length ls.flatten hown ad n2 cap2 ls2.flatten (by rw [bk y2,y1,x2]) y5
      (fun u hu=>by obtain ⟨l,hl,hu⟩:=List.mem_flatten.1 hu; exact y3 l hl u hu) (by omega) (by rw [x2]; exact hby) (Nat.zero_le _)
     refine ⟨v',w',ls2,by rw [x1,hA]; exact z1,?_,z3,z5,y1,y2,y3,y4⟩
     rw [List.flatten_append,← x2]
     exact z2
   obtain ⟨v',w',ls2,z1,z2,z3,z4,y1,y2,y3,y4⟩:=hrun
   have z1:(Builtin.append_ #[t,t] o.type #[ρ s,ρ x]).run P w = .ok v' w':=by
    rcases hs0 with hs0 | ⟨⟨A,hA⟩,hs0,hpn⟩
    ·rw [← hs0]; exact z1
    ·rw [← z1,hA,hs0,x1]
     refine append_base0 (e:=e) (i:=i) ht hi A A2 n2 cap2 w hpn ?_
     have:es2.length * i.bytes ≤ (es.length + es2.length) * i.bytes:=Nat.mul_le_mul_right _ (by omega)
     rw [x2]; omega
   have hes' : ∀ e ∈ es ++ es2,e.length = i.size:=fun e he=>by rcases List.mem_append.1 he with he | he; exact hes e he; exact x3 e he
   have hls' : ∀ l ∈ ls ++ ls2,l.length = i.size:=fun l hl=>by rcases List.mem_append.1 hl with hl | hl; exact hls l hl; exact y2 l hl
   have h1' : ∀ l ∈ ls ++ ls2,∀ u ∈ l,u.oneCell' = true:=fun l hl=>by rcases List.mem_append.1 hl with hl | hl; exact h1 l hl; exact y3 l hl
   have hr' : ∀ (k:Nat) (e:List PVal) (l:List Value),(es ++ es2)[k]? = some e → (ls ++ ls2)[k]? = some l → Reps w (okn ok m) D m true e l:=by
    intro k e l he hl
    by_cases hk:k < es.length
    ·rw [List.getElem?_append_left hk] at he
     rw [List.getElem?_append_left (by omega)] at hl
     exact hr k e l he hl
    ·rw [List.getElem?_append_right (by omega)] at he
     rw [List.getElem?_append_right (by omega),hll] at hl
     exact y4 _ e l he hl
   obtain ⟨B1,b1,b2,b3,b4⟩:=row_of_owns (es:=es ++ es2) (ok:=ok) (by rw [List.length_append]; exact z2) hpos hes' hls' (by simp [hll,y1]) h1'
   rw [List.length_append] at b1
   obtain ⟨g1,g2,g3⟩:=hH.reloc (w':=w') id0 nx B1 (.row i.size e (es ++ es2)) z3.os z3.tape z3.output z3.size
    (fun b hb hn=>z3.block b hb fun e=>by
     obtain ⟨i0,t0,h0,hm0⟩:=hblk b e.symm
     exact hn i0 t0 h0 hm0) (.inr hnx)
    (fun b t' e=>by
     have hb:=b2 b t' e
     refine ⟨(z2.lt b hb).2,?_⟩
     rcases z4 with z4 | z4
     ·obtain ⟨i0,t0,h0,hm0⟩:=hblk b (by rw [← z4]; exact hb)
      exact .inr ⟨i0,t0,h0,hm0⟩
     ·rw [hb] at z4
      injection z4 with z4
      exact .inl (by omega))
    (fun hst=>b4 _ _ fun k e l he hl=>(hr' k e l he hl).mono fun p v hr=>hr.step hst (fun _=>.inl) (by
     intro id hd
     by_cases h1:id = nx
     ·subst h1; exact absurd hd hnx
     ·by_cases h2:id0 = some id
      ·right; simp [h1,h2]
      ·left; simp [h1,h2]))
   exact ⟨v',w',f7 h ha hat z1,B1,g1,g2,b1,b3,g3⟩
  cases p <;> simp only at hc
  case nils =>
   split at hc
   ·rename_i hcond
    obtain ⟨c1,c2,c3⟩:=hcond
    injection hc with hc
    subst hc
    have hv0:=bv hs
    obtain ⟨v,w',r1,B1,r2,r3,r4,r5,r6⟩:=main (ρ s) (.inl rfl) [] [] none rh2 c1 rfl (fun l hl=>by simp at hl) (fun l hl=>by simp at hl) (fun k e l he=>by simp at he) (by rw [hv0]; exact World.ownsRow_nil w 0 e i.size) (fun e he=>by simp at he)
     (fun k hk=>by rw [hv0] at hk; simp [Value.ownBlock] at hk) (by simpa using c2) (by simpa using c3) (fun i0 h0=>by cases h0)
    refine ⟨v,w',(fun i=>D i ∨ i = nx),_,.inl r1,?_,r3,?_,fun id=>by simp,r6⟩
    ·rw [dt]
     simpa using r2
    ·refine .own (.inr rfl) r5 fun B hB=>?_
     simp only [if_true,Option.some.injEq] at hB
     subst hB
     simpa using r4
   ·cases hc
  case own id sz1 lo n =>
   cases ho:heap id with
   | none=>simp [ho] at hc
   | some ob =>
    cases ob <;> simp only [ho] at hc
    case row sz1' ty1 es =>
     split at hc
     ·rename_i hcond
      obtain ⟨c1,c2,c3,c4,c5,c6,c7,c8,c9⟩:=hcond
      injection hc with hc
      subst hc
      subst c4 c5 c6
      have c2':=c2
      rw [c2] at hs
      rw [c3] at ho
      have hDid:D id:=by cases hs with | own hd _ _=>exact hd
      have hpre : ∃ (v:Value) (w':World),(execOp ρ o).run P w = .ok (.value v) w' ∧ ∃ B1,SimH (fun i=>D i ∨ i = nx) (fun i=>if i = nx then some B1 else if some id = some i then none else m i) ok (fun j=>if j = nx then some (.row i.size ty1 (es ++ es2)) else if some id = some j then none else heap j) w' ∧
        Step m w (fun i=>if i = nx then some B1 else if some id = some i then none else m i) w' ∧ OwnVal B1 i.size 0 (es.length + es2.length) v ∧ v.oneCell' = true ∧
        (∀ id',D id' → (fun i=>if i = nx then some B1 else if some id = some i then none else m i) id' = m id' ∨ (fun i=>if i = nx then some B1 else if some id = some i then none else m i) id' = none):=by
       by_cases hnil:m id = some .nil
       ·obtain ⟨B,hB,hob⟩:=hH.obj id _ ho
        rw [hnil] at hB
        injection hB with hB
        subst hB
        obtain ⟨he0,hsz0⟩:=hob
        subst he0
        obtain ⟨A,hA⟩ : ∃ A,ρ s = .slice A 0 0:=by cases hs with | own _ _ hp=>exact (hp _ hnil).1
        rcases Nat.eq_zero_or_pos n2 with h0 | hp
        ·have he2:es2 = []:=List.eq_nil_of_length_eq_zero (by omega)
         subst he2
         have hrun:(Builtin.append_ #[t,t] o.type #[ρ s,ρ x]).run P w = .ok (.slice A 0 0) w:=by
          rw [hA,x1,h0]
          cases A <;> cases A2 <;> simp [Builtin.append_,run_underlying ht,aQ hi,Builtin.lenOf,Builtin.firstCells,loadCells,loadCellsFrom,storeCells]
         obtain ⟨g1,g2,g3⟩:=hH.reloc (w':=w) (some id) nx .nil (.row i.size ty1 []) rfl rfl rfl (Nat.le_refl _) (fun b hb hn=>rfl) (.inr hnx) (fun b t' e=>by cases e) (fun hst=>⟨rfl,hsz0⟩)
         exact ⟨_,w,f7 h ha hat hrun,.nil,g1,g2,⟨⟨A,rfl⟩,rfl,rfl⟩,rfl,g3⟩
        ·exact main (.slice none 0 0) (.inr ⟨⟨A,hA⟩,rfl,hp⟩) [] [] (some id) rh2 c1 rfl (fun l hl=>by simp at hl) (fun l hl=>by simp at hl) (fun k e l he=>by simp at he) (World.ownsRow_nil w 0 ty1 i.size) (fun e he=>by simp at he)
          (fun k hk=>by simp [Value.ownBlock] at hk) c7 c8 (fun i0 h0=>by injection h0 with h0; subst h0; exact hDid)
       ·obtain ⟨ls,k1,k2,k3,k4,k5,k6,k7,k8⟩:=own_row hH ho hnil hs
        exact main (ρ s) (.inl rfl) es ls (some id) rh2 c1 k1 k2 k3 k4 k5 k6 (fun k hk=>by obtain ⟨t0,ht0⟩:=k8 k hk; exact ⟨id,t0,rfl,ht0⟩) c7 c8 (fun i0 h0=>by injection h0 with h0; subst h0; exact hDid)
      obtain ⟨v,w',r1,B1,r2,r3,r4,r5,r6⟩:=hpre
      refine ⟨v,w',(fun i=>D i ∨ i = nx),_,.inl r1,?_,r3,?_,fun id=>by simp,r6⟩
      ·rw [gP]
       exact r2
      ·refine .own (.inr rfl) r5 fun B hB=>?_
       simp only [if_true,Option.some.injEq] at hB
       subst hB
       exact r4
     ·cases hc
    case full sz1' ty1 es =>
     obtain ⟨A2',n2',cap2',x1',x2',x4'⟩:=dv hH hx hel
     exact ee h ha hat ht hi hz hpos hzs hH hnx hs ho x1' x2' x4' hc
    all_goals cases hc
  all_goals cases hc
end
theorem str_eq {a b:ByteArray} (h:(a == b) = true):a = b:=by
 cases a; cases b
 rename_i a b
 have:(a == b) = true:=h
 rw [eq_of_beq this]
theorem str_refl (a:ByteArray):(a == a) = true:=by
 cases a
 rename_i a
 exact (beq_self_eq_true a:(a == a) = true)
section
variable {P:Program} {o:Oper} {ρ:Operand → Value} {D:AId → Prop} {m:AId → Option Blk} {ok:Nat → Prop} {heap:AId → Option AObj} {w:World} {nx:AId} {r:R}
theorem eP {d:TypeDesc} {lk:LK} (hd:LKof d = some lk) {p:PVal} (hp:leafIs lk p = true):MapKept.IsKey d (leafVal p):=by
 cases d <;> simp [LKof] at hd <;> subst hd <;> cases p <;> simp [leafIs] at hp <;> simp [MapKept.IsKey,leafVal]
 exact hp.symm
theorem cr {d:TypeDesc} {lk:LK} (hd:LKof d = some lk) {p q:PVal} {b:Bool} (hp:leafIs lk p = true) (hq:leafIs lk q = true) (hb:leafEq p q = some b):Instr.sameNow d (leafVal p) (leafVal q) = some b:=by
 cases d <;> simp [LKof] at hd <;> subst hd <;> cases p <;> simp [leafIs] at hp <;> cases q <;> simp [leafIs] at hq <;> simp [leafEq] at hb <;> simp [Instr.sameNow,leafVal]
 ·exact hb
 ·subst hp hq
  simp at hb ⊢
  rw [← hb]
  rfl
 ·exact hb
theorem dk {d:TypeDesc} {k:Value} : ∀ (es:List MapEntry) (j:Nat) (res:Option (Nat × Value)),Instr.findNow d k es 0 = some res → Instr.findNow d k es j = some (res.map fun x=>(x.1 + j,x.2)):=by
 have key : ∀ (es:List MapEntry) (i j:Nat) (res:Option (Nat × Value)),Instr.findNow d k es i = some res → Instr.findNow d k es (i + j) = some (res.map fun x=>(x.1 + j,x.2)):=by
  intro es
  induction es with
  | nil=>intro i j res h; simp [Instr.findNow] at h ⊢; subst h; rfl
  | cons e es ih =>
   intro i j res h
   unfold Instr.findNow at h ⊢
   cases hs:Instr.sameNow d k e.key with
   | none=>simp [hs] at h
   | some b =>
    cases b with
    | true=>simp only [hs,Option.some.injEq] at h ⊢; subst h; rfl
    | false =>
     simp only [hs] at h ⊢
     have:=ih (i + 1) j res h
     rwa [show i + 1 + j = i + j + 1 by omega] at this
 intro es j res h
 have:=key es 0 j res h
 rwa [Nat.zero_add] at this
theorem eS {d:TypeDesc} {lk:LK} (hd:LKof d = some lk) {k:PVal} (hk:leafIs lk k = true) : ∀ {kvs:List (PVal × PVal)} {ents:List MapEntry} {a:Option PVal},findP lk k kvs = some a → ents.length = kvs.length →
  (∀ (i:Nat) (k x:PVal),kvs[i]? = some (k,x) → ∃ e,ents[i]? = some e ∧ Rep w (okn ok m) D m true k e.key ∧ Rep w (okn ok m) D m true x e.val) →
  ∃ res,Instr.findNow d (leafVal k) ents 0 = some res ∧ (match a with | some x=>∃ i v,res = some (i,v) ∧ Rep w (okn ok m) D m true x v | none=>res = none)
 | [],ents,a,h,hl,_=>by
  simp [findP] at h
  subst h
  obtain rfl:=List.eq_nil_of_length_eq_zero hl
  exact ⟨none,rfl,rfl⟩
 | (k',x) :: r,ents,a,h,hl,hr=>by
  match ents,hl with
  | e :: es,hl =>
   simp only [findP] at h
   split at h
   ·rename_i hk'
    obtain ⟨e',he',h1,h2⟩:=hr 0 k' x rfl
    simp at he'
    subst he'
    have hkey:=dG h1 hk'
    split at h
    ·rename_i hb
     injection h with h
     subst h
     refine ⟨some (0,e.val),?_,0,e.val,rfl,h2⟩
     simp only [Instr.findNow,hkey,cr hd hk hk' hb]
    ·rename_i hb
     obtain ⟨res,g1,g2⟩:=eS hd hk h (by simpa using hl) (fun i k x hi=>by have:=hr (i + 1) k x (by simpa using hi); simpa using this)
     refine ⟨res.map fun x=>(x.1 + 1,x.2),?_,?_⟩
     ·simp only [Instr.findNow,hkey,cr hd hk hk' hb]
      exact dk es 1 res g1
     ·cases a with
      | none=>simp only at g2 ⊢; rw [g2]; rfl
      | some y =>
       obtain ⟨i,v,rfl,g3⟩:=g2
       exact ⟨i + 1,v,rfl,g3⟩
    ·cases h
   ·cases h
  | [],hl=>simp at hl
theorem leafEq_eq {lk:LK} {p q:PVal} (hp:leafIs lk p = true) (hq:leafIs lk q = true) (h:leafEq p q = some true):p = q:=by
 cases lk <;> cases p <;> simp [leafIs] at hp <;> cases q <;> simp [leafIs] at hq <;> simp [leafEq] at h
 ·obtain ⟨rfl,rfl⟩:=h; rfl
 ·rw [h]
 ·rw [str_eq h]
theorem setP_spec {d:TypeDesc} {lk:LK} (hd:LKof d = some lk) {k x:PVal} (hk:leafIs lk k = true) : ∀ {kvs kvs':List (PVal × PVal)} {ents:List MapEntry},setP lk k x kvs = some kvs' → ents.length = kvs.length →
  (∀ (i:Nat) (k x:PVal),kvs[i]? = some (k,x) → ∃ e,ents[i]? = some e ∧ Rep w (okn ok m) D m true k e.key ∧ Rep w (okn ok m) D m true x e.val) →
  (∃ i v e,Instr.findNow d (leafVal k) ents 0 = some (some (i,v)) ∧ ents[i]? = some e ∧ e.key = leafVal k ∧ kvs' = kvs.set i (k,x)) ∨ (Instr.findNow d (leafVal k) ents 0 = some none ∧ kvs' = kvs ++ [(k,x)])
 | [],kvs',ents,h,hl,_=>by
  simp [setP] at h
  subst h
  obtain rfl:=List.eq_nil_of_length_eq_zero hl
  exact .inr ⟨rfl,rfl⟩
 | (k',y) :: r,kvs',ents,h,hl,hr=>by
  match ents,hl with
  | e :: es,hl =>
   simp only [setP] at h
   split at h
   ·rename_i hk'
    obtain ⟨e',he',h1,h2⟩:=hr 0 k' y rfl
    simp at he'
    subst he'
    have hkey:=dG h1 hk'
    split at h
    ·rename_i hb
     injection h with h
     subst h
     have:=leafEq_eq hk hk' hb
     refine .inl ⟨0,e.val,e,?_,rfl,by rw [hkey,this],rfl⟩
     simp only [Instr.findNow,hkey,cr hd hk hk' hb]
    ·rename_i hb
     split at h
     ·rename_i l hl'
      injection h with h
      subst h
      rcases setP_spec hd hk hl' (by simpa using hl) (fun i k x hi=>by have:=hr (i + 1) k x (by simpa using hi); simpa using this) with ⟨i,v,e2,g1,g2,g3,g4⟩ | ⟨g1,g2⟩
      ·refine .inl ⟨i + 1,v,e2,?_,by simpa using g2,g3,by rw [g4]; rfl⟩
       simp only [Instr.findNow,hkey,cr hd hk hk' hb]
       exact dk es 1 _ g1
      ·refine .inr ⟨?_,by rw [g2]; rfl⟩
       simp only [Instr.findNow,hkey,cr hd hk hk' hb]
       exact dk es 1 _ g1
     ·cases h
    ·cases h
   ·cases h
  | [],hl=>simp at hl
theorem core_mkmap {t:TypeId} (h:o.op = .makeMap t none) (hH:SimH D m ok heap w) (hnx : ¬ D nx) (hc:core .mkmap [] heap nx = some r):Out P o ρ D m ok heap w r:=by
 simp only [core,Option.some.injEq] at hc
 subst hc
 refine Out.new hH hnx (v:=.map (some w.heap.size)) (.mp []) (.map #[] 0) 0 [] ?_ (fun m' D' _ _ _=>⟨#[],0,?_,rfl,fun i k x h=>by simp at h⟩) (fun m' D' _ _ _ hd hm=>.mapr hd rfl fun b t e=>?_)
 ·unfold execOp
  simp only [h]
  simp [Instr.makeMap]
 ·exact heap_alloc_new w _
 ·rw [hm] at e
  injection e with e
  injection e with e1 e2
  rw [e1]
theorem f6 {t:TypeId} {x i:Operand} {c:Bool} (h:o.op = .lookup t x i c):(execOp ρ o).run P w = ((Instr.lookup t (ρ x) (ρ i) c).run P w).andThen fun v w'=>.ok (.value v) w':=by
 unfold execOp
 simp only [h]
 simp [Sem.run_bind]
theorem zero_run {e:TypeId} {ie:TypeInfo} {z:Value} (hi:P.info? e = some ie) (hz:ie.zero = some z):(zeroValue e).run P w = .ok z w:=by
 simp [zeroValue,typeInfo,Sem.run_bind,hi,hz]
theorem core_lookup {t kt e:TypeId} {x i:Operand} {c:Bool} {d:TypeDesc} {ie:TypeInfo} {lk:LK} {z:Value} {zp p q:PVal} (h:o.op = .lookup t x i c) (ht:P.underlying t = some (.map kt e)) (hk:P.underlying kt = some d) (hi:P.info? e = some ie) (hlk:LKof d = some lk) (hz:ie.zero = some z) (hzp:ofConst z = some zp)
  (hH:SimH D m ok heap w) (hx:Rep w (okn ok m) D m false p (ρ x)) (hy:Rep w (okn ok m) D m false q (ρ i)) (hc:core (.lookup zp c lk) [p,q] heap nx = some r):Out P o ρ D m ok heap w r:=by
 have hzr : ∀ {cc:Bool},Rep w (okn ok m) D m cc zp z:=fX hzp
 have hres : ∀ (y:PVal) (v:Value) (b:Bool),Rep w (okn ok m) D m false y v → Rep w (okn ok m) D m false (if c then .tup [y,.bool b] else y) (if c then .tuple #[v,.bool b] else v):=by
  intro y v b hv
  cases c
  ·exact hv
  ·exact Rep.tup (cs:=[y,.bool b]) (vs:=[v,.bool b]) rfl (Reps.cons hv (Reps.cons .bool (Reps.nil ..))).2
 cases p <;> simp only [core] at hc
 case nilm =>
  split at hc
  ·rename_i hl
   injection hc with hc
   subst hc
   have hxv:ρ x = .map none:=by generalize ρ x = X at hx; cases hx; rfl
   have hkv:=dG hy hl
   refine aC hH [] (v:=if c then .tuple #[z,.bool false] else z) ?_ (hres zp z false hzr)
   rw [f6 h,hxv,hkv]
   unfold Instr.lookup
   simp only [Sem.run_bind,run_underlying ht,Result.andThen_ok,Sem.run_pure,MapKept.run_checkKey hk (eP hlk hl)]
   rw [MapKept.run_findKey hk (a:=none) (by simp [Instr.findNow])]
   simp only [Result.andThen_ok,Sem.run_bind,zero_run hi hz,Sem.run_pure]
  ·cases hc
 case mapr id =>
  cases ho:heap id with
  | none=>simp [ho] at hc
  | some ob =>
   cases ob <;> simp only [ho] at hc
   case mp kvs =>
    split at hc
    ·rename_i hl
     have hkv:=dG hy hl
     obtain ⟨B,hB,hob⟩:=hH.obj id _ ho
     cases B with
     | nil=>exact hob.elim
     | «at» b tt =>
      obtain ⟨ents,clock,g1,g2,g3⟩:=hob
      cases hx with
      | mapr _ _ hp =>
       have hxv:=hp b tt hB
       have hrun : ∀ (res:Option (Nat × Value)),Instr.findNow d (leafVal q) ents.toList 0 = some res → (execOp ρ o).run P w = .ok (.value (if c then .tuple #[(res.map (·.2)).getD z,.bool res.isSome] else (res.map (·.2)).getD z)) w:=by
        intro res hres
        rw [f6 h,hxv,hkv]
        unfold Instr.lookup
        simp only [Sem.run_bind,run_underlying ht,Result.andThen_ok,MapKept.run_getObj_map g1,Sem.run_pure,MapKept.run_checkKey hk (eP hlk hl),MapKept.run_findKey hk hres]
        cases res with
        | none =>
         simp only [Result.andThen_ok,Sem.run_bind,zero_run hi hz,Sem.run_pure]
         cases c <;> rfl
        | some y =>
         simp only [Result.andThen_ok,Sem.run_bind,Sem.run_pure]
         cases c <;> rfl
       split at hc
       ·rename_i y hf
        injection hc with hc
        subst hc
        obtain ⟨res,f1,i',v,rfl,f2⟩:=eS hlk hl hf (by rw [Array.length_toList]; exact g2) (fun i k x h=>by have:=g3 i k x h; simpa using this)
        exact aC hH [id] (hrun _ f1) (hres y v true f2.opened)
       ·rename_i hf
        injection hc with hc
        subst hc
        obtain ⟨res,f1,rfl⟩:=eS hlk hl hf (by rw [Array.length_toList]; exact g2) (fun i k x h=>by have:=g3 i k x h; simpa using this)
        exact aC hH [id] (hrun _ f1) (hres zp z false hzr)
       ·cases hc
    ·cases hc
   all_goals cases hc
 all_goals cases hc
theorem f0 {t:TypeId} {x i v:Operand} (h:o.op = .mapUpdate t x i v ∨ o.op = .insert t x i v):(execOp ρ o).run P w = ((Instr.mapUpdate t (ρ x) (ρ i) (ρ v)).run P w).andThen fun _ w'=>.ok .skip w':=by
 rcases h with h | h <;>
 ·unfold execOp
  simp only [h]
  simp [Sem.run_bind]
theorem sameBits_leaf {lk:LK} {p:PVal} (h:leafIs lk p = true) (n:Nat):Instr.sameBits n (leafVal p) (leafVal p) = true:=by
 cases lk <;> cases p <;> simp [leafIs] at h <;> simp [leafVal,Instr.sameBits]
 exact str_refl _
theorem gc {t kt e:TypeId} {x i v:Operand} {d:TypeDesc} {lk:LK} {p q y:PVal} (h:o.op = .mapUpdate t x i v ∨ o.op = .insert t x i v) (ht:P.underlying t = some (.map kt e)) (hk:P.underlying kt = some d) (hlk:LKof d = some lk)
  (hH:SimH D m ok heap w) (hx:Rep w (okn ok m) D m false p (ρ x)) (hq:Rep w (okn ok m) D m false q (ρ i)) (hy:Rep w (okn ok m) D m false y (ρ v)) (hc:core (.mapset lk) [p,q,y] heap nx = some r):Out P o ρ D m ok heap w r:=by
 cases p <;> simp only [core] at hc
 case mapr id =>
  cases ho:heap id with
  | none=>simp [ho] at hc
  | some ob =>
   cases ob <;> simp only [ho] at hc
   case mp kvs =>
    split at hc
    ·rename_i hcond
     obtain ⟨hl,hcl⟩:=hcond
     have hkv:=dG hq hl
     split at hc
     ·rename_i l hset
      injection hc with hc
      subst hc
      obtain ⟨B,hB,hob⟩:=hH.obj id _ ho
      cases B with
      | nil=>exact hob.elim
      | «at» b tt =>
       obtain ⟨ents,clock,g1,g2,g3⟩:=hob
       have hlt:b < w.heap.size:=hH.lt id b tt hB
       cases hx with
       | mapr _ _ hp =>
        have hxv:=hp b tt hB
        have hyc:=hy.close hcl
        have hik:MapKept.IsKey d (ρ i):=by rw [hkv]; exact eP hlk hl
        have hkc:Rep w (okn ok m) D m true q (ρ i):=hq.close (by cases lk <;> cases q <;> simp [leafIs] at hl <;> rfl)
        have step : ∀ {cc:Bool} {p:PVal} {u:Value} {w':World},Step m w m w' → Rep w (okn ok m) D m cc p u → Rep w' (okn ok m) D m cc p u:=fun hst h=>h.step hst (fun _ h=>h) (fun _ _=>.inl rfl)
        rcases setP_spec hlk hl hset (by rw [Array.length_toList]; exact g2) (fun i k x h=>by have:=g3 i k x h; simpa using this) with ⟨i',v',e',f1,f2,f3,f4⟩ | ⟨f1,f2⟩
        ·refine dT hH (B:=.at b tt) (w':={ w with heap:=w.heap.setIfInBounds b (.map (ents.modify i' fun e=>{ e with key:=ρ i,val:=ρ v }) clock) }) hB (.mp l) [id] ?_ rfl rfl rfl (by simp) (fun k hk=>(MapKept.heap_set (o':=.map (ents.modify i' fun e=>{ e with key:=ρ i,val:=ρ v }) clock) g1).2 k hk) (fun hst=>⟨ents.modify i' fun e=>{ e with key:=ρ i,val:=ρ v },clock,(MapKept.heap_set g1).1,by rw [f4]; simpa using g2,fun j k x hj=>?_⟩)
         ·rw [f0 h,hxv]
          unfold Instr.mapUpdate
          have hkk:((ents[i']?).map (·.key)).getD (ρ i) = ρ i:=by
           have:ents[i']? = some e':=by simpa using f2
           rw [this]; simp only [Option.map_some,Option.getD_some]; rw [f3,hkv]
          have hstay:(Instr.keyThatStays (ρ i) (ρ i)).run P w = .ok (ρ i) w:=by
           unfold Instr.keyThatStays
           rw [if_pos (by rw [hkv]; exact sameBits_leaf hl _)]
           rfl
          simp only [Sem.run_bind,run_underlying ht,Result.andThen_ok,MapKept.run_getObj_map g1,MapKept.run_checkKey hk hik]
          rw [MapKept.run_findKey hk (hkv ▸ f1)]
          simp only [Result.andThen_ok,Sem.run_bind,hkk,hstay,MapKept.run_setObj_map _ g1]
         ·rw [f4,List.getElem?_set] at hj
          rw [Array.getElem?_modify]
          by_cases hij:i' = j
          ·subst hij
           have he':ents[i']? = some e':=by simpa using f2
           have hlen:i' < kvs.length:=by rw [← g2]; exact (Array.getElem?_eq_some_iff.1 he').1
           simp only [if_true,hlen] at hj
           injection hj with hj
           injection hj with e1 e2
           subst e1 e2
           simp only [if_true,he',Option.map_some]
           exact ⟨_,rfl,step hst hkc,step hst hyc⟩
          ·simp only [hij,if_false] at hj ⊢
           obtain ⟨e2,a1,a2,a3⟩:=g3 j k x hj
           exact ⟨e2,by simpa using a1,step hst a2,step hst a3⟩
        ·refine dT hH (B:=.at b tt) (w':={ w with heap:=w.heap.setIfInBounds b (.map (ents.push { key:=ρ i,val:=ρ v,born:=clock }) (clock + 1)) }) hB (.mp l) [id] ?_ rfl rfl rfl (by simp) (fun k hk=>(MapKept.heap_set (o':=.map (ents.push { key:=ρ i,val:=ρ v,born:=clock }) (clock + 1)) g1).2 k hk) (fun hst=>⟨ents.push { key:=ρ i,val:=ρ v,born:=clock },clock + 1,(MapKept.heap_set g1).1,by rw [f2]; simp [g2],fun j k x hj=>?_⟩)
         ·rw [f0 h,hxv]
          unfold Instr.mapUpdate
          simp only [Sem.run_bind,run_underlying ht,Result.andThen_ok,MapKept.run_getObj_map g1,MapKept.run_checkKey hk hik]
          rw [MapKept.run_findKey hk (hkv ▸ f1)]
          simp only [Result.andThen_ok,MapKept.run_setObj_map _ g1]
         ·rw [f2] at hj
          rw [Array.getElem?_push]
          by_cases hij:j < kvs.length
          ·rw [List.getElem?_append_left hij] at hj
           rw [if_neg (by omega)]
           obtain ⟨e2,a1,a2,a3⟩:=g3 j k x hj
           exact ⟨e2,a1,step hst a2,step hst a3⟩
          ·have hjl:j = kvs.length:=by
            have:=(List.getElem?_eq_some_iff.1 hj).1
            simp at this; omega
           subst hjl
           simp only [List.getElem?_append_right (Nat.le_refl _),Nat.sub_self,List.getElem?_cons_zero,Option.some.injEq,Prod.mk.injEq] at hj
           obtain ⟨rfl,rfl⟩:=hj
           rw [if_pos g2.symm]
           exact ⟨_,rfl,step hst hkc,step hst hyc⟩
     ·cases hc
    ·cases hc
   all_goals cases hc
 all_goals cases hc
end
section
variable {P:Program} {o:Oper} {ρ:Operand → Value} {D:AId → Prop} {m:AId → Option Blk} {ok:Nat → Prop} {heap:AId → Option AObj} {w:World} {nx:AId} {r:R}
theorem Reps.one {c:Bool} {ps:List PVal} {v:Value} (h:Reps w ok D m c ps [v]) : ∃ p,ps = [p] ∧ Rep w ok D m c p v:=by
 match ps,h with
 | [p],h=>exact ⟨p,rfl,h.head⟩
 | [],h=>have:=h.1; simp at this
 | _ :: _ :: _,h=>have:=h.1; simp at this
theorem Reps.two {c:Bool} {ps:List PVal} {v u:Value} (h:Reps w ok D m c ps [v,u]) : ∃ p q,ps = [p,q] ∧ Rep w ok D m c p v ∧ Rep w ok D m c q u:=by
 match ps,h with
 | [p,q],h=>exact ⟨p,q,rfl,h.head,h.tail.head⟩
 | [],h=>have:=h.1; simp at this
 | [_],h=>have:=h.1; simp at this
 | _ :: _ :: _ :: _,h=>have:=h.1; simp at this
theorem Reps.three {c:Bool} {ps:List PVal} {v u x:Value} (h:Reps w ok D m c ps [v,u,x]) : ∃ p q s,ps = [p,q,s] ∧ Rep w ok D m c p v ∧ Rep w ok D m c q u ∧ Rep w ok D m c s x:=by
 match ps,h with
 | [p,q,s],h=>exact ⟨p,q,s,rfl,h.head,h.tail.head,h.tail.tail.head⟩
 | [],h=>have:=h.1; simp at this
 | [_],h=>have:=h.1; simp at this
 | [_,_],h=>have:=h.1; simp at this
 | _ :: _ :: _ :: _ :: _,h=>have:=h.1; simp at this
theorem ba {k:IntKind} {i:Int} {y:Nat} {code:BoundsCode} (h0:0 ≤ i) (h1:i ≤ y):(Instr.sliceBound (.int k i) y code).run P w = .ok i.toNat w:=by
 unfold Instr.sliceBound
 simp [asIntOf,h0,h1]
theorem eY {lo hi:Option Operand} {len l u:Nat} {bs:List PVal} (hs:sbnd lo.isSome hi.isSome len bs = some (l,u)) (hx:Reps w (okn ok m) D m false bs ((lo.toList ++ hi.toList).map ρ)) :
  l ≤ u ∧ u ≤ len ∧ ∀ (b:Bool) (cap:Nat),len ≤ cap → (Instr.sliceBounds b len cap (lo.map ρ) (hi.map ρ) none).run P w = .ok (l,u,cap) w:=by
 cases lo with
 | none =>
  cases hi with
  | none =>
   obtain rfl:bs = []:=List.eq_nil_of_length_eq_zero hx.1
   simp only [sbnd,Option.isSome_none,Option.some.injEq,Prod.mk.injEq] at hs
   obtain ⟨rfl,rfl⟩:=hs
   refine ⟨Nat.zero_le _,Nat.le_refl _,fun b cap hc=>?_⟩
   simp [Instr.sliceBounds]
  | some hi =>
   obtain ⟨p,rfl,hp⟩:=hx.one
   cases p <;> simp only [sbnd,Option.isSome_none,Option.isSome_some] at hs <;> try (cases hs; done)
   rename_i k i
   split at hs
   ·rename_i hb
    simp only [Option.some.injEq,Prod.mk.injEq] at hs
    obtain ⟨rfl,rfl⟩:=hs
    refine ⟨Nat.zero_le _,by omega,fun b cap hc=>?_⟩
    have hv:=aP hp
    simp only [Instr.sliceBounds,Option.map_some,Option.map_none,hv,Sem.run_bind,Sem.run_pure,Result.andThen_ok]
    rw [ba hb.1 (by omega)]
    simp
   ·cases hs
 | some lo =>
  cases hi with
  | none =>
   obtain ⟨p,rfl,hp⟩:=hx.one
   cases p <;> simp only [sbnd,Option.isSome_none,Option.isSome_some] at hs <;> try (cases hs; done)
   rename_i k i
   split at hs
   ·rename_i hb
    simp only [Option.some.injEq,Prod.mk.injEq] at hs
    obtain ⟨rfl,rfl⟩:=hs
    refine ⟨by omega,Nat.le_refl _,fun b cap hc=>?_⟩
    have hv:=aP hp
    simp only [Instr.sliceBounds,Option.map_some,Option.map_none,hv,Sem.run_bind,Sem.run_pure,Result.andThen_ok]
    rw [ba hb.1 (by omega)]
    simp
   ·cases hs
  | some hi =>
   obtain ⟨p,q,rfl,hp,hq⟩:=hx.two
   cases p <;> cases q <;> simp only [sbnd,Option.isSome_some] at hs <;> try (cases hs; done)
   rename_i k i k' j
   split at hs
   ·rename_i hb
    simp only [Option.some.injEq,Prod.mk.injEq] at hs
    obtain ⟨rfl,rfl⟩:=hs
    refine ⟨by omega,by omega,fun b cap hc=>?_⟩
    have hv:=aP hp
    have hv':=aP hq
    simp only [Instr.sliceBounds,Option.map_some,hv,hv',Sem.run_bind,Sem.run_pure,Result.andThen_ok]
    rw [ba (by omega) (by omega)]
    simp only [Result.andThen_ok,Sem.run_bind]
    rw [ba hb.1 (by omega)]
    simp
   ·cases hs
theorem sbndC_run {lo hi:Option Operand} {len cap l u:Nat} {bs:List PVal} (hs:sbndC lo.isSome hi.isSome len cap bs = some (l,u)) (hlc:len ≤ cap) (hx:Reps w (okn ok m) D m false bs ((lo.toList ++ hi.toList).map ρ)) :
  l ≤ u ∧ u ≤ cap ∧ ∀ (b:Bool),(Instr.sliceBounds b len cap (lo.map ρ) (hi.map ρ) none).run P w = .ok (l,u,cap) w:=by
 cases lo with
 | none =>
  cases hi with
  | none=>simp [sbndC] at hs
  | some hi =>
   obtain ⟨p,rfl,hp⟩:=hx.one
   cases p <;> simp only [sbndC,Option.isSome_none,Option.isSome_some] at hs <;> try (cases hs; done)
   rename_i k i
   split at hs
   ·rename_i hb
    simp only [Option.some.injEq,Prod.mk.injEq] at hs
    obtain ⟨rfl,rfl⟩:=hs
    refine ⟨Nat.zero_le _,by omega,fun b=>?_⟩
    have hv:=aP hp
    simp only [Instr.sliceBounds,Option.map_some,Option.map_none,hv,Sem.run_bind,Sem.run_pure,Result.andThen_ok]
    rw [ba hb.1 (by omega)]
    simp
   ·cases hs
 | some lo =>
  cases hi with
  | none =>
   obtain ⟨p,rfl,hp⟩:=hx.one
   cases p <;> simp only [sbndC,Option.isSome_none,Option.isSome_some] at hs <;> try (cases hs; done)
   rename_i k i
   split at hs
   ·rename_i hb
    simp only [Option.some.injEq,Prod.mk.injEq] at hs
    obtain ⟨rfl,rfl⟩:=hs
    refine ⟨by omega,hlc,fun b=>?_⟩
    have hv:=aP hp
    simp only [Instr.sliceBounds,Option.map_some,Option.map_none,hv,Sem.run_bind,Sem.run_pure,Result.andThen_ok]
    rw [ba hb.1 (by omega)]
    simp
   ·cases hs
  | some hi =>
   obtain ⟨p,q,rfl,hp,hq⟩:=hx.two
   cases p <;> cases q <;> simp only [sbndC,Option.isSome_some] at hs <;> try (cases hs; done)
   rename_i k i k' j
   split at hs
   ·rename_i hb
    simp only [Option.some.injEq,Prod.mk.injEq] at hs
    obtain ⟨rfl,rfl⟩:=hs
    refine ⟨by omega,by omega,fun b=>?_⟩
    have hv:=aP hp
    have hv':=aP hq
    simp only [Instr.sliceBounds,Option.map_some,hv,hv',Sem.run_bind,Sem.run_pure,Result.andThen_ok]
    rw [ba (by omega) (by omega)]
    simp only [Result.andThen_ok,Sem.run_bind]
    rw [ba hb.1 (by omega)]
    simp
   ·cases hs
theorem cx {t e:TypeId} {x:Operand} {lo hi:Option Operand} {ti:TypeInfo} {A:Option Addr} {n cap l u:Nat} (h:o.op = .slice t x lo hi none) (ht:P.underlying t = some (.slice e)) (hi':P.info? e = some ti) (hx:ρ x = .slice A n cap)
  (hb:(Instr.sliceBounds true n cap (lo.map ρ) (hi.map ρ) none).run P w = .ok (l,u,cap) w):(execOp ρ o).run P w = .ok (.value (.slice (if cap = l then A else A.map (·.add (l * ti.size))) (u - l) (cap - l))) w:=by
 unfold execOp
 simp only [h,hx]
 simp only [Instr.sliceAt,Instr.slice,Sem.run_bind,run_underlying ht,Result.andThen_ok,Option.map_none,hb,aQ hi',Sem.run_pure]
theorem core_slice {t e:TypeId} {x:Operand} {lo hi:Option Operand} {ti:TypeInfo} {ps:List PVal} (h:o.op = .slice t x lo hi none) (ht:P.underlying t = some (.slice e)) (hi':P.info? e = some ti) (hH:SimH D m ok heap w)
  (hx:Reps w (okn ok m) D m false ps ((x :: (lo.toList ++ hi.toList)).map ρ)) (hc:core (.slice ti.size lo.isSome hi.isSome) ps heap nx = some r):Out P o ρ D m ok heap w r:=by
 have hps : ∃ p bs,ps = p :: bs:=by
  cases ps with
  | nil=>have:=hx.1; simp at this
  | cons p bs=>exact ⟨p,bs,rfl⟩
 obtain ⟨p,bs,rfl⟩:=hps
 skip
 ·have hp:=hx.head
  have hbs:=hx.tail
  cases p <;> simp only [core] at hc <;> try (cases hc; done)
  case nils =>
   split at hc
   ·rename_i lu hs
    obtain ⟨l,u⟩:=lu
    injection hc with hc
    subst hc
    obtain ⟨h1,h2,h3⟩:=eY (P:=P) hs hbs
    have:=cx (P:=P) (w:=w) h ht hi' (bv hp) (h3 true 0 (Nat.le_refl _))
    obtain rfl:u = 0:=by omega
    obtain rfl:l = 0:=by omega
    exact aC hH _ this .nils
   ·cases hc
  case ro sz es =>
   split at hc
   ·rename_i lu l u hs
    split at hc
    ·rename_i hsz
     subst hsz
     injection hc with hc
     subst hc
     obtain ⟨h1,h2,h3⟩:=eY (P:=P) hs hbs
     generalize hv:ρ x = v at hp
     cases hp with
     | ro vs hn hcp hml hsz hA hcell hr =>
      rename_i A n cap ad
      subst hn
      refine aC hH _ (cx (P:=P) (w:=w) h ht hi' hv (h3 true cap hcp)) ?_
      have hget : ∀ (i j:Nat) (e:List PVal) (p:PVal),((es.drop l).take (u - l))[i]? = some e → e[j]? = some p → i < u - l ∧ es[l + i]? = some e:=by
       intro i j e p he hp'
       refine ⟨?_,?_⟩
       ·have:=(List.getElem?_eq_some_iff.1 he).1
        simp at this
        omega
       ·have:=bW he
        rwa [List.getElem?_drop] at this
      refine .ro (ad:=ad.add (l * ti.size)) (fun i j=>vs (l + i) j) (by simp; omega) (by omega) (by omega) (fun e he=>hsz e (List.mem_of_mem_drop (List.mem_of_mem_take he))) (fun hn=>?_) (fun i j e p he hp'=>?_) (fun i j e p he hp'=>?_)
      ·rw [hA (by omega),if_neg (by omega)]
       rfl
      ·obtain ⟨hi2,he2⟩:=hget i j e p he hp'
       obtain ⟨q1,q2,q3⟩:=hcell (l + i) j e p he2 hp'
       refine ⟨?_,?_,q3⟩
       ·rw [bp]; exact q1
       ·rw [← q2]
        congr 1
        rw [ib]
        congr 1
        rw [Nat.add_mul]; omega
      ·obtain ⟨hi2,he2⟩:=hget i j e p he hp'
       exact hr (l + i) j e p he2 hp'
    ·cases hc
   ·cases hc
  case own id sz s n =>
   cases ho:heap id with
   | none=>simp [ho] at hc
   | some ob =>
    cases ob <;> simp only [ho] at hc <;> try (cases hc; done)
    case row sz'' ty es =>
     split at hc
     ·rename_i lu l u hs
      split at hc
      ·rename_i hsz
       obtain ⟨hz1,hz2⟩:=hsz
       subst hz1
       injection hc with hc
       subst hc
       obtain ⟨h1,h2,h3⟩:=eY (P:=P) hs hbs
       obtain ⟨B,hB,hob⟩:=hH.obj id _ ho
       generalize hv:ρ x = v at hp
       cases hp with
       | own hd h1' hp =>
        have hov:=hp B hB
        cases B with
        | nil =>
         obtain ⟨⟨A0,rfl⟩,rfl,rfl⟩:=hov
         have:=cx (P:=P) (w:=w) h ht hi' hv (h3 true 0 (Nat.le_refl _))
         obtain rfl:u = 0:=by omega
         obtain rfl:l = 0:=by omega
         refine aC hH _ this (.own hd rfl fun B' hB'=>?_)
         rw [hB] at hB'
         injection hB' with hB'
         subst hB'
         exact ⟨⟨A0,by simp⟩,rfl,rfl⟩
        | «at» b tot =>
         obtain ⟨a,cap,rfl,ha1,ha2,ha3,hn,hcap,hmx⟩:=hov
         refine aC hH _ (cx (P:=P) (w:=w) h ht hi' hv (h3 true cap hn)) (.own hd ?_ fun B' hB'=>?_)
         ·rfl
         ·rw [hB] at hB'
          injection hB' with hB'
          subst hB'
          by_cases hcl:cap = l
          ·subst hcl
           rw [if_pos rfl]
           refine ⟨a,0,by rw [Nat.sub_self],ha1,ha2,?_,by omega,by omega,hmx⟩
           by_cases h0:0 < s + cap
           ·exact .inr ⟨rfl,h0⟩
           ·rcases ha3 with h' | ⟨_,h'⟩
            ·left
             have e1:s + cap = s:=by omega
             rw [h',e1]
            ·omega
          ·rw [if_neg hcl]
           refine ⟨a.add (l * ti.size),cap - l,rfl,by rw [bp]; exact ha1,?_,?_,by omega,by omega,hmx⟩
           ·unfold Addr.add; split
            ·exact ha2
            ·rfl
           ·left
            have hoff:a.off = s * ti.size:=by
             rcases ha3 with h' | ⟨h',_⟩
             ·exact h'
             ·omega
            have:(a.add (l * ti.size)).off = a.off + l * ti.size:=by
             unfold Addr.add; split
             ·omega
             ·rfl
            rw [this,hoff,Nat.add_mul]
      ·cases hc
     ·cases hc
    case full sz'' ty es =>
     split at hc
     ·rename_i lu l u hs
      split at hc
      ·rename_i hsz
       obtain ⟨hz1,hz2,hz3⟩:=hsz
       subst hz1
       injection hc with hc
       subst hc
       obtain ⟨B,hB,hob⟩:=hH.obj id _ ho
       generalize hv:ρ x = v at hp
       cases hp with
       | own hd h1' hp =>
        have hov:=hp B hB
        cases B with
        | nil =>
         obtain ⟨⟨A0,rfl⟩,rfl,rfl⟩:=hov
         obtain ⟨he0,_⟩:=hob
         subst he0
         obtain ⟨h1,h2,h3⟩:=sbndC_run (P:=P) hs (by simp) hbs
         have:=cx (P:=P) (w:=w) h ht hi' hv (h3 true)
         have h2:u ≤ 0:=by simpa using h2
         obtain rfl:u = 0:=by omega
         obtain rfl:l = 0:=by omega
         refine aC hH _ this (.own hd rfl fun B' hB'=>?_)
         rw [hB] at hB'
         injection hB' with hB'
         subst hB'
         exact ⟨⟨A0,by simp⟩,rfl,rfl⟩
        | «at» b tot =>
         obtain ⟨a,cap,rfl,ha1,ha2,ha3,hn,hcap,hmx⟩:=hov
         obtain ⟨_,_,_,hel,_⟩:=hob
         have hce:es.length - s = cap:=by omega
         rw [hce] at hs
         obtain ⟨h1,h2,h3⟩:=sbndC_run (P:=P) hs hn hbs
         refine aC hH _ (cx (P:=P) (w:=w) h ht hi' hv (h3 true)) (.own hd ?_ fun B' hB'=>?_)
         ·rfl
         ·rw [hB] at hB'
          injection hB' with hB'
          subst hB'
          by_cases hcl:cap = l
          ·subst hcl
           rw [if_pos rfl]
           refine ⟨a,0,by rw [Nat.sub_self],ha1,ha2,?_,by omega,by omega,hmx⟩
           by_cases h0:0 < s + cap
           ·exact .inr ⟨rfl,h0⟩
           ·rcases ha3 with h' | ⟨_,h'⟩
            ·left
             have e1:s + cap = s:=by omega
             rw [h',e1]
            ·omega
          ·rw [if_neg hcl]
           refine ⟨a.add (l * ti.size),cap - l,rfl,by rw [bp]; exact ha1,?_,?_,by omega,by omega,hmx⟩
           ·unfold Addr.add; split
            ·exact ha2
            ·rfl
           ·left
            have hoff:a.off = s * ti.size:=by
             rcases ha3 with h' | ⟨h',_⟩
             ·exact h'
             ·omega
            have:(a.add (l * ti.size)).off = a.off + l * ti.size:=by
             unfold Addr.add; split
             ·omega
             ·rfl
            rw [this,hoff,Nat.add_mul]
      ·cases hc
     ·cases hc
theorem core_sliceS {t:TypeId} {x:Operand} {lo hi:Option Operand} {ps:List PVal} (h:o.op = .slice t x lo hi none) (ht:P.underlying t = some .string) (hH:SimH D m ok heap w)
  (hx:Reps w (okn ok m) D m false ps ((x :: (lo.toList ++ hi.toList)).map ρ)) (hc:core (.sliceS lo.isSome hi.isSome) ps heap nx = some r):Out P o ρ D m ok heap w r:=by
 have hps : ∃ p bs,ps = p :: bs:=by
  cases ps with
  | nil=>have:=hx.1; simp at this
  | cons p bs=>exact ⟨p,bs,rfl⟩
 obtain ⟨p,bs,rfl⟩:=hps
 skip
 ·have hp:=hx.head
  have hbs:=hx.tail
  cases p <;> simp only [core] at hc <;> try (cases hc; done)
  case str s =>
   split at hc
   ·rename_i lu l u hs
    injection hc with hc
    subst hc
    obtain ⟨h1,h2,h3⟩:=eY (P:=P) hs hbs
    refine aC hH _ (v:=.string (s.extract l u)) ?_ .str
    unfold execOp
    simp only [h,bC hp]
    simp only [Instr.sliceAt,Instr.slice,Sem.run_bind,run_underlying ht,Result.andThen_ok,Option.map_none,Option.isSome_none,Bool.false_eq_true,if_false,h3 false s.size (Nat.le_refl _),Sem.run_pure]
   ·cases hc
theorem core_sliceZ {t e:TypeId} {x hi mx:Operand} {ti:TypeInfo} {ps:List PVal} (h:o.op = .slice t x none (some hi) (some mx)) (ht:P.underlying t = some (.slice e)) (hi':P.info? e = some ti) (hpos:0 < ti.size) (hH:SimH D m ok heap w) (hnx : ¬ D nx)
  (hx:Reps w (okn ok m) D m false ps ([x,hi,mx].map ρ)) (hc:core (.sliceZ ti.size e) ps heap nx = some r):Out P o ρ D m ok heap w r:=by
 obtain ⟨p,q,s,rfl,hp,hq,hs⟩:=hx.three
 have main : ∀ (A:Option Addr) (n cap:Nat),ρ x = .slice A n cap → ∀ k k',ρ hi = .int k 0 → ρ mx = .int k' 0 → Out P o ρ D m ok heap w { v:=.own nx ti.size 0 0,wh:=[(nx,some (.row ti.size e []))],nw:=[nx] }:=by
  intro A n cap hv k k' hk hk'
  have hrun:(execOp ρ o).run P w = .ok (.value (.slice A 0 0)) w:=by
   unfold execOp
   simp only [h,hv]
   simp only [Instr.sliceAt,Instr.slice,Sem.run_bind,run_underlying ht,Result.andThen_ok,Option.map_none,Option.map_some,hk,hk',Instr.sliceBounds]
   rw [ba (by omega) (by omega)]
   simp only [Result.andThen_ok,Sem.run_bind,Int.toNat_zero]
   rw [ba (by omega) (by omega)]
   simp [aQ hi']
  obtain ⟨g1,g2,g3⟩:=hH.reloc (w':=w) none nx .nil (.row ti.size e []) rfl rfl rfl (Nat.le_refl _) (fun b hb hn=>rfl) (.inr hnx) (fun b t' e=>by cases e) (fun hst=>⟨rfl,hpos⟩)
  refine ⟨_,w,(fun i=>D i ∨ i = nx),_,.inl hrun,?_,g2,.own (.inr rfl) rfl fun B' hB'=>?_,fun i=>by simp,g3⟩
  ·rw [dt]; simpa using g1
  ·simp only [if_true,Option.some.injEq] at hB'
   subst hB'
   exact ⟨⟨A,rfl⟩,rfl,rfl⟩
 cases p <;> (try simp only [core] at hc) <;> try (cases hc; done)
 all_goals cases q <;> (try simp only [core] at hc) <;> try (cases hc; done)
 all_goals cases s <;> (try simp only [core] at hc) <;> try (cases hc; done)
 all_goals
  split at hc
  ·rename_i hb
   obtain ⟨rfl,rfl⟩:=hb
   injection hc with hc
   subst hc
   first
    | exact main _ _ _ (bv hp) _ _ (aP hq) (aP hs)
    | (obtain ⟨A,n,cap,e1,_⟩:=ro_elem hp; exact main _ _ _ e1 _ _ (aP hq) (aP hs))
  ·cases hc
theorem core_slice3 {t e:TypeId} {x lo hi mx:Operand} {ti:TypeInfo} {ps:List PVal} (h:o.op = .slice t x (some lo) (some hi) (some mx)) (ht:P.underlying t = some (.slice e)) (hi':P.info? e = some ti) (hH:SimH D m ok heap w)
  (hx:Reps w (okn ok m) D m false ps ([x,lo,hi,mx].map ρ)) (hc:core (.slice3 ti.size) ps heap nx = some r):Out P o ρ D m ok heap w r:=by
 obtain ⟨p,ps,rfl⟩ : ∃ p ps',ps = p :: ps':=by
  cases ps with
  | nil=>have:=hx.1; simp at this
  | cons p ps=>exact ⟨p,ps,rfl⟩
 have hp:=hx.head
 obtain ⟨a,b,c,rfl,ha,hb,hcc⟩:=hx.tail.three
 cases p <;> (try simp only [core] at hc) <;> try (cases hc; done)
 cases a <;> (try simp only [core] at hc) <;> try (cases hc; done)
 cases b <;> (try simp only [core] at hc) <;> try (cases hc; done)
 cases c <;> (try simp only [core] at hc) <;> try (cases hc; done)
 rename_i id sz' s n k1 l k2 u k3 y
 cases ho:heap id with
 | none=>simp [ho] at hc
 | some ob =>
  cases ob <;> simp only [ho] at hc <;> try (cases hc; done)
  split at hc
  ·rename_i hb'
   obtain ⟨b1,b2,b3,b4⟩:=hb'
   injection hc with hc
   subst hc
   obtain ⟨B,hB,hob⟩:=hH.obj id _ ho
   obtain ⟨A,cap,hv,hnc⟩ : ∃ A cap,ρ x = .slice A n cap ∧ n ≤ cap:=by
    generalize ρ x = v at hp
    cases hp with
    | own hd h1' hp =>
     have:=hp B hB
     cases B with
     | nil=>obtain ⟨⟨A,e⟩,_,e3⟩:=this; exact ⟨A,0,by rw [e,e3],by omega⟩
     | «at» b t=>obtain ⟨a,cap,e,_,_,_,e3,_⟩:=this; exact ⟨some a,cap,e,e3⟩
   have e1:=aP ha
   have e2:=aP hb
   have e3:=aP hcc
   refine aC hH _ (v:=.slice (if y.toNat = l.toNat then A else A.map (·.add (l.toNat * ti.size))) (u.toNat - l.toNat) (y.toNat - l.toNat)) ?_ .undef
   unfold execOp
   simp only [h,hv]
   simp only [Instr.sliceAt,Instr.slice,Sem.run_bind,run_underlying ht,Result.andThen_ok,Option.map_some,e1,e2,e3,Instr.sliceBounds]
   rw [ba (by omega) (by omega)]
   simp only [Result.andThen_ok,Sem.run_bind]
   rw [ba (by omega) (by omega)]
   simp only [Result.andThen_ok,Sem.run_bind]
   rw [ba (by omega) (by omega)]
   simp only [Result.andThen_ok,Sem.run_bind,Sem.run_pure,aQ hi']
  ·cases hc
end
section
variable {P:Program} {D:AId → Prop} {m:AId → Option Blk} {ok:Nat → Prop} {heap:AId → Option AObj} {w:World} {o:Oper} {ρ:Operand → Value} {r:R} {nx:AId}
theorem hO : ∀ {es:List (List PVal)} {ls:List (List Value)} {xs:List Int},bytesP es = some xs → ls.length = es.length →
  (∀ (i:Nat) (e:List PVal) (l:List Value),es[i]? = some e → ls[i]? = some l → Reps w (okn ok m) D m true e l) → ls.flatten = xs.map (Value.int .u8)
 | [],ls,xs,h,hl,_=>by
  simp only [bytesP,Option.some.injEq] at h
  subst h
  have:ls = []:=List.length_eq_zero_iff.1 hl
  subst this
  rfl
 | e :: es,ls,xs,h,hl,hr=>by
  cases ls with
  | nil=>simp at hl
  | cons l ls =>
   have h0:=hr 0 e l rfl rfl
   unfold bytesP at h
   split at h
   ·rename_i heq
    cases heq
   ·rename_i n r heq
    injection heq with e1 e2
    subst e1 e2
    obtain ⟨ys,h1,rfl⟩:=Option.map_eq_some_iff.1 h
    obtain ⟨v,vs,rfl,hv,hvs⟩:=h0.uncons
    have:=hvs.unnil
    subst this
    have hv':=aP hv
    subst hv'
    have ih:=hO (es:=es) (ls:=ls) h1 (by simpa using hl) (fun i e l he hl'=>hr (i + 1) e l (by simpa using he) (by simpa using hl'))
    simp only [List.flatten_cons,ih,List.map_cons,List.singleton_append]
   ·cases h
theorem core_bstr {src dst e:TypeId} {x:Operand} {p:PVal} (h:o.op = .convert src dst x) (hs:P.underlying src = some (.slice e)) (he:P.underlying e = some (.int .u8)) (hd:P.underlying dst = some .string) (hH:SimH D m ok heap w)
  (hx:Rep w (okn ok m) D m false p (ρ x)) (hc:core .bstr [p] heap nx = some r):Out P o ρ D m ok heap w r:=by
 have hex : ∀ (v:Value) (s:ByteArray),ρ x = v → (convert src dst v).run P w = .ok (.string s) w → (execOp ρ o).run P w = .ok (.value (.string s)) w:=by
  intro v s hv hr
  unfold execOp
  simp only [h,hv]
  simp [Sem.run_bind,hr]
 simp only [core] at hc
 split at hc
 ·rename_i sz es rh hel
  split at hc
  ·rename_i xs hb
   split at hc
   ·injection hc with hc
    subst hc
    obtain ⟨A,n,cap,hv,hn,hsz,hcells⟩:=fQ hH hx hel
    refine aC hH _ (v:=.string (strNums xs)) (hex _ _ hv ?_) .str
    rw [run_convert_bytes_string w src dst e _ _ _ hs he hd]
    have key : ∀ ad:Addr,(loadCells ad n).run P w = .ok (xs.map (Value.int .u8)).toArray w → (Conv.bytesToString (.slice (some ad) n cap)).run P w = .ok (.string (strNums xs)) w:=by
     intro ad hl
     rw [run_bytesToString w ad n cap xs hl,foldl_push_bytes]
     simp [strNums,ByteArray.empty,ByteArray.emptyWithCapacity]
     rfl
    rcases Nat.eq_zero_or_pos n with h0 | h0
    ·have hes:es = []:=List.length_eq_zero_iff.1 (by omega)
     subst hes
     simp only [bytesP,Option.some.injEq] at hb
     subst hb
     cases A with
     | none=>simp [Conv.bytesToString,strNums,ByteArray.empty,ByteArray.emptyWithCapacity]; rfl
     | some ad =>
      refine key ad ?_
      have:=run_loadCells_list (P:=P) w ad [] (fun j v hj=>by simp at hj)
      rw [h0]
      simpa using this
    ·obtain ⟨ad,rfl,ls,l1,l2,l3,l4,l5⟩:=hcells h0
     refine key ad ?_
     have hf:=hO hb l1 l4
     have:=run_loadCells_list (P:=P) w ad (xs.map (Value.int .u8)) (fun j v hj=>l5 j v (by rw [hf]; exact hj))
     have hlen:(xs.map (Value.int .u8)).length = n:=by
      rw [← hf,hn,← l1]
      have : ∀ (ls:List (List Value)),(∀ l ∈ ls,l.length = sz) → ls.flatten.length = ls.length * sz:=by
       intro ls
       induction ls with
       | nil=>intro _; simp
       | cons a ls ih=>intro hh; simp only [List.flatten_cons,List.length_append,List.length_cons,ih fun l hl=>hh l (List.mem_cons_of_mem _ hl),hh a List.mem_cons_self,Nat.add_mul]; omega
      rw [this ls l2]
      simp_all
     rw [hlen] at this
     simpa using this
   ·cases hc
  ·cases hc
 ·split at hc
  ·injection hc with hc
   subst hc
   have hv:ρ x = .slice none 0 0:=by
    generalize ρ x = v at hx
    cases hx
    rfl
   refine aC hH _ (v:=.string (strNums [])) (hex _ _ hv ?_) .str
   rw [run_convert_bytes_nil w src e hs he 0 0 dst hd]
   rfl
  ·cases hc
end
end Go.Proofs.YtmfggjebbhdejaaGreat.Abs
