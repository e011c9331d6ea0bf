/- An abstract machine: location-free values (PVal) and objects that a call owns, and what they say of the model's values and worlds. Generic over any program. -/
import Derived.Test.YtakallenldpkiaaGreatDoorG0
import Derived.WalkKit
import Derived.Below
import Derived.Orders
import Derived.Deep.Draws
import Derived.Maps.AppendAt
import Derived.OwnWalk
set_option linter.unusedSectionVars false
namespace Go.Proofs.YtakallenldpkiaaGreatDoor.Abs
open Go
abbrev AId:=Nat
inductive PVal where
 | undef
 | hole
 | bool (b:Bool)
 | int (k:IntKind) (n:Int)
 | str (s:ByteArray)
 | nilp | nils | nilf | nili | nilm
 | yld (l:Nat)
 | anyb
 | agg (cs:List PVal)
 | tup (cs:List PVal)
 | ro (sz:Nat) (es:List (List PVal))
 | rptr (cs:List PVal)
 | ptr (id off:Nat)
 | eptr (id sz i off:Nat)
 | own (id sz lo n:Nat)
 | mapr (id:Nat)
 | fn (f:FuncId) (first caps:List PVal)
 | iface (t:TypeId) (v:PVal)
 deriving Inhabited
inductive AObj where
 | box (cs:List PVal)
 | row (sz:Nat) (ty:TypeId) (es:List (List PVal))
 | mp (kvs:List (PVal × PVal))
 | mq (clk:Nat) (es:List (Nat × ByteArray × PVal))
 | full (sz:Nat) (ty:TypeId) (es:List (List PVal))
 deriving Inhabited
inductive Blk where
 | nil
 | at (b:Nat) (tot:Nat)
def OwnVal (B:Blk) (sz lo n:Nat) (v:Value):Prop :=
 match B with
 | .nil=>(∃ A,v = .slice A 0 0) ∧ lo = 0 ∧ n = 0
 | .at b tot=>∃ a cap,v = .slice (some a) n cap ∧ a.block = b ∧ a.spot = none ∧ (a.off = lo * sz ∨ (cap = 0 ∧ 0 < lo)) ∧ n ≤ cap ∧ lo + cap = tot ∧ tot ≤ maxLen
inductive Rep (w:World) (ok:Nat → Prop) (D:AId → Prop) (m:AId → Option Blk):Bool → PVal → Value → Prop where
 | undef {c:Bool} {v:Value}:Rep w ok D m c .undef v
 | hole {c:Bool}:Rep w ok D m c .hole (.tuple #[])
 | bool {c b:Bool}:Rep w ok D m c (.bool b) (.bool b)
 | int {c:Bool} {k:IntKind} {n:Int}:Rep w ok D m c (.int k n) (.int k n)
 | str {c:Bool} {s:ByteArray}:Rep w ok D m c (.str s) (.string s)
 | nilp {c:Bool}:Rep w ok D m c .nilp (.pointer none)
 | nils {c:Bool}:Rep w ok D m c .nils (.slice none 0 0)
 | nilf {c:Bool}:Rep w ok D m c .nilf .nilFunc
 | yld {c:Bool} {l:Nat}:Rep w ok D m c (.yld l) (.func (.yield l) #[] #[])
 | nili {c:Bool}:Rep w ok D m c .nili .nilIface
 | nilm {c:Bool}:Rep w ok D m c .nilm (.map none)
 | anyb {c b:Bool}:Rep w ok D m c .anyb (.bool b)
 | agg {c:Bool} {cs:List PVal} {vs:List Value} (hl:cs.length = vs.length) (h1 : ∀ v ∈ vs,v.oneCell' = true) (h : ∀ (i:Nat) (p:PVal) (v:Value),cs[i]? = some p → vs[i]? = some v → Rep w ok D m c p v):Rep w ok D m c (.agg cs) (.agg vs.toArray)
 | tup {c:Bool} {cs:List PVal} {vs:List Value} (hl:cs.length = vs.length) (h : ∀ (i:Nat) (p:PVal) (v:Value),cs[i]? = some p → vs[i]? = some v → Rep w ok D m c p v):Rep w ok D m c (.tup cs) (.tuple vs.toArray)
 | ro {c:Bool} {sz:Nat} {es:List (List PVal)} {A:Option Addr} {n cap:Nat} {ad:Addr} (vs:Nat → Nat → Value) (hn:es.length = n) (hc:n ≤ cap) (hm:cap ≤ maxLen) (hs : ∀ e ∈ es,e.length = sz) (hA:0 < n → A = some ad)
   (hcell : ∀ (i j:Nat) (e:List PVal) (p:PVal),es[i]? = some e → e[j]? = some p → ok ad.block ∧ w.cell? (ad.add (i * sz + j)) = some (vs i j) ∧ (vs i j).oneCell' = true)
   (h : ∀ (i j:Nat) (e:List PVal) (p:PVal),es[i]? = some e → e[j]? = some p → Rep w ok D m true p (vs i j)):Rep w ok D m c (.ro sz es) (.slice A n cap)
 | rptr {c:Bool} {cs:List PVal} {ad:Addr} (vs:Nat → Value) (hcell : ∀ (j:Nat) (p:PVal),cs[j]? = some p → ok ad.block ∧ w.cell? (ad.add j) = some (vs j) ∧ (vs j).oneCell' = true)
   (h : ∀ (j:Nat) (p:PVal),cs[j]? = some p → Rep w ok D m true p (vs j)):Rep w ok D m c (.rptr cs) (.pointer (some ad))
 | ptr {id off:Nat} {v:Value} (hD:D id) (h1:v.oneCell' = true) (h : ∀ (b t:Nat),m id = some (.at b t) → v = .pointer (some ⟨b,off,none⟩)):Rep w ok D m false (.ptr id off) v
 | eptr {id sz i off:Nat} {v:Value} (hD:D id) (h1:v.oneCell' = true) (h : ∀ (b t:Nat),m id = some (.at b t) → v = .pointer (some ⟨b,i * sz + off,none⟩)):Rep w ok D m false (.eptr id sz i off) v
 | own {id sz lo n:Nat} {v:Value} (hD:D id) (h1:v.oneCell' = true) (h : ∀ (B:Blk),m id = some B → OwnVal B sz lo n v):Rep w ok D m false (.own id sz lo n) v
 | mapr {id:Nat} {v:Value} (hD:D id) (h1:v.oneCell' = true) (h : ∀ (b t:Nat),m id = some (.at b t) → v = .map (some b)):Rep w ok D m false (.mapr id) v
 | fn {c:Bool} {f:FuncId} {first caps:List PVal} {fv cv:List Value} (hl1:first.length = fv.length) (hl2:caps.length = cv.length) (h1 : ∀ (i:Nat) (p:PVal) (v:Value),first[i]? = some p → fv[i]? = some v → Rep w ok D m c p v)
   (h2 : ∀ (i:Nat) (p:PVal) (v:Value),caps[i]? = some p → cv[i]? = some v → Rep w ok D m c p v):Rep w ok D m c (.fn f first caps) (.func (.func f) fv.toArray cv.toArray)
 | iface {c:Bool} {t:TypeId} {p:PVal} {v:Value} (h:Rep w ok D m c p v):Rep w ok D m c (.iface t p) (.iface t v)
theorem cell_lt {w:World} {a:Addr} {v:Value} (h:w.cell? a = some v):a.block < w.heap.size:=World.block_lt_of_cell? w a h
theorem Addr.add_block (a:Addr) (n:Nat):(a.add n).block = a.block:=by unfold Addr.add; split <;> rfl
theorem Rep.mono {w w':World} {ok ok':Nat → Prop} {D D':AId → Prop} {m m':AId → Option Blk} {c c':Bool} {p:PVal} {v:Value} (h:Rep w ok D m c p v)
  (hw : ∀ a u,ok a.block → w.cell? a = some u → w'.cell? a = some u) (hok : ∀ b,ok b → b < w.heap.size → ok' b)
  (hc:c' = true → c = true) (hD:c' = false → c = false → ∀ id,D id → D' id) (hm:c' = false → c = false → ∀ id,D id → m' id = m id ∨ m' id = none):Rep w' ok' D' m' c' p v:=by
 induction h generalizing c' with
 | undef=>exact .undef
 | hole=>exact .hole
 | bool=>exact .bool
 | int=>exact .int
 | str=>exact .str
 | nilp=>exact .nilp
 | nils=>exact .nils
 | nilf=>exact .nilf
 | yld=>exact .yld
 | nili=>exact .nili
 | nilm=>exact .nilm
 | anyb=>exact .anyb
 | agg hl h1 _ ih=>exact .agg hl h1 (fun i p v hp hv=>ih i p v hp hv hc hD hm)
 | tup hl _ ih=>exact .tup hl (fun i p v hp hv=>ih i p v hp hv hc hD hm)
 | ro vs hn hcp hml hs hA hcell _ ih =>
  refine .ro vs hn hcp hml hs hA (fun i j e p he hp=>?_) (fun i j e p he hp=>ih i j e p he hp (fun _=>rfl) (fun h=>by cases h) (fun h=>by cases h))
  obtain ⟨h1,h2,h3⟩:=hcell i j e p he hp
  refine ⟨hok _ h1 ?_,hw _ _ ?_ h2,h3⟩
  ·have:=cell_lt h2; rwa [Addr.add_block] at this
  ·rwa [Addr.add_block]
 | rptr vs hcell _ ih =>
  refine .rptr vs (fun j p hp=>?_) (fun j p hp=>ih j p hp (fun _=>rfl) (fun h=>by cases h) (fun h=>by cases h))
  obtain ⟨h1,h2,h3⟩:=hcell j p hp
  refine ⟨hok _ h1 ?_,hw _ _ ?_ h2,h3⟩
  ·have:=cell_lt h2; rwa [Addr.add_block] at this
  ·rwa [Addr.add_block]
 | @ptr id off v hd h1 h =>
  cases c' with
  | true=>cases hc rfl
  | false=>exact .ptr (hD rfl rfl _ hd) h1 (fun b t e=>by rcases hm rfl rfl _ hd with h' | h' <;> rw [h'] at e; exact h b t e; cases e)
 | @eptr id sz i off v hd h1 h =>
  cases c' with
  | true=>cases hc rfl
  | false=>exact .eptr (hD rfl rfl _ hd) h1 (fun b t e=>by rcases hm rfl rfl _ hd with h' | h' <;> rw [h'] at e; exact h b t e; cases e)
 | @own id sz lo n v hd h1 h =>
  cases c' with
  | true=>cases hc rfl
  | false=>exact .own (hD rfl rfl _ hd) h1 (fun b e=>by rcases hm rfl rfl _ hd with h' | h' <;> rw [h'] at e; exact h b e; cases e)
 | @mapr id v hd h1 h =>
  cases c' with
  | true=>cases hc rfl
  | false=>exact .mapr (hD rfl rfl _ hd) h1 (fun b t e=>by rcases hm rfl rfl _ hd with h' | h' <;> rw [h'] at e; exact h b t e; cases e)
 | fn hl1 hl2 _ _ ih1 ih2=>exact .fn hl1 hl2 (fun i p v hp hv=>ih1 i p v hp hv hc hD hm) (fun i p v hp hv=>ih2 i p v hp hv hc hD hm)
 | iface _ ih=>exact .iface (ih hc hD hm)
def PVal.one:PVal → Bool
 | .undef | .hole | .agg _ | .tup _=>false
 | _=>true
theorem Rep.one {w:World} {ok:Nat → Prop} {D:AId → Prop} {m:AId → Option Blk} {c:Bool} {p:PVal} {v:Value} (h:Rep w ok D m c p v) (hp:p.one = true):v.oneCell' = true:=by
 cases h <;> simp_all [PVal.one,Value.oneCell']
def PVal.closed:PVal → Bool
 | .agg cs=>go cs
 | .tup cs=>go cs
 | .fn _ a b=>go a && go b
 | .iface _ v=>v.closed
 | .ptr .. | .eptr .. | .own .. | .mapr ..=>false
 | _=>true
where
 go:List PVal → Bool
  | []=>true
  | p :: r=>p.closed && go r
theorem PVal.closed_go {l:List PVal} (h:PVal.closed.go l = true) : ∀ (i:Nat) (p:PVal),l[i]? = some p → p.closed = true:=by
 induction l with
 | nil=>intro i p hp; simp at hp
 | cons q r ih =>
  simp only [PVal.closed.go,Bool.and_eq_true] at h
  intro i p hp
  cases i with
  | zero=>simp at hp; subst hp; exact h.1
  | succ i=>simp at hp; exact ih h.2 i p hp
theorem Rep.close {w:World} {ok:Nat → Prop} {D:AId → Prop} {m:AId → Option Blk} {c:Bool} {p:PVal} {v:Value} (h:Rep w ok D m c p v) (hp:p.closed = true):Rep w ok D m true p v:=by
 induction h with
 | undef=>exact .undef
 | hole=>exact .hole
 | bool=>exact .bool
 | int=>exact .int
 | str=>exact .str
 | nilp=>exact .nilp
 | nils=>exact .nils
 | nilf=>exact .nilf
 | yld=>exact .yld
 | nili=>exact .nili
 | nilm=>exact .nilm
 | anyb=>exact .anyb
 | agg hl h1 _ ih=>exact .agg hl h1 (fun i p v hp' hv=>ih i p v hp' hv (PVal.closed_go (by simpa [PVal.closed] using hp) i p hp'))
 | tup hl _ ih=>exact .tup hl (fun i p v hp' hv=>ih i p v hp' hv (PVal.closed_go (by simpa [PVal.closed] using hp) i p hp'))
 | ro vs hn hcp hml hs hA hcell h _=>exact .ro vs hn hcp hml hs hA hcell h
 | rptr vs hcell h _=>exact .rptr vs hcell h
 | ptr hd h1 h=>simp [PVal.closed] at hp
 | eptr hd h1 h=>simp [PVal.closed] at hp
 | own hd h1 h=>simp [PVal.closed] at hp
 | mapr hd h1 h=>simp [PVal.closed] at hp
 | fn hl1 hl2 _ _ ih1 ih2 =>
  simp only [PVal.closed,Bool.and_eq_true] at hp
  exact .fn hl1 hl2 (fun i p v hp' hv=>ih1 i p v hp' hv (PVal.closed_go hp.1 i p hp')) (fun i p v hp' hv=>ih2 i p v hp' hv (PVal.closed_go hp.2 i p hp'))
 | iface _ ih=>exact .iface (ih (by simpa [PVal.closed] using hp))
theorem Rep.opened {w:World} {ok:Nat → Prop} {D D':AId → Prop} {m m':AId → Option Blk} {c:Bool} {p:PVal} {v:Value} (h:Rep w ok D m true p v):Rep w ok D' m' c p v :=
 h.mono (fun _ _ _ hc=>hc) (fun _ hb _=>hb) (fun _=>rfl) (fun _ h=>by cases h) (fun _ h=>by cases h)
def okn (ok:Nat → Prop) (m:AId → Option Blk) (b:Nat):Prop:=ok b ∧ ∀ (id:AId) (t:Nat),m id ≠ some (.at b t)
def RepObj (w:World) (ok:Nat → Prop) (D:AId → Prop) (m:AId → Option Blk):AObj → Blk → Prop
 | .box cs,.at b _=>∃ (vs:Array Value) (ty:TypeId),w.heap[b]? = some (.cells vs ty (0,0)) ∧ vs.size = cs.length ∧
   ∀ (i:Nat) (p:PVal),cs[i]? = some p → ∃ v,vs[i]? = some v ∧ v.oneCell' = true ∧ Rep w (okn ok m) D m false p v
 | .row sz ty es,.at b tot=>∃ (vs:Array Value),w.heap[b]? = some (.cells vs ty (0,0)) ∧ vs.size = tot * sz ∧ es.length ≤ tot ∧ tot ≤ maxLen ∧ 0 < sz ∧ (∀ e ∈ es,e.length = sz) ∧
   ∀ (i j:Nat) (e:List PVal) (p:PVal),es[i]? = some e → e[j]? = some p → ∃ v,vs[i * sz + j]? = some v ∧ v.oneCell' = true ∧ Rep w (okn ok m) D m true p v
 | .row sz _ es,.nil=>es = [] ∧ 0 < sz
 | .full sz ty es,.at b tot=>∃ (vs:Array Value),w.heap[b]? = some (.cells vs ty (0,0)) ∧ vs.size = tot * sz ∧ es.length = tot ∧ tot ≤ maxLen ∧ 0 < sz ∧ (∀ e ∈ es,e.length = sz) ∧
   ∀ (i j:Nat) (e:List PVal) (p:PVal),es[i]? = some e → e[j]? = some p → p = .undef ∨ ∃ v,vs[i * sz + j]? = some v ∧ v.oneCell' = true ∧ Rep w (okn ok m) D m true p v
 | .full sz _ es,.nil=>es = [] ∧ 0 < sz
 | .mp kvs,.at b _=>∃ (ents:Array MapEntry) (clock:Nat),w.heap[b]? = some (.map ents clock) ∧ ents.size = kvs.length ∧
   ∀ (i:Nat) (k x:PVal),kvs[i]? = some (k,x) → ∃ e,ents[i]? = some e ∧ Rep w (okn ok m) D m true k e.key ∧ Rep w (okn ok m) D m true x e.val
 | .mq clk es,.at b _=>∃ (ents:Array MapEntry),w.heap[b]? = some (.map ents clk) ∧ ents.size = es.length ∧
   ∀ (i s:Nat) (k:ByteArray) (x:PVal),es[i]? = some (s,k,x) → ∃ e,ents[i]? = some e ∧ e.born = s ∧ e.key = .string k ∧ Rep w (okn ok m) D m true x e.val
 | _,_=>False
structure SimH (D:AId → Prop) (m:AId → Option Blk) (ok:Nat → Prop) (heap:AId → Option AObj) (w:World):Prop where
 obj : ∀ (id:AId) (o:AObj),heap id = some o → ∃ B,m id = some B ∧ RepObj w ok D m o B
 dom : ∀ (id:AId) (B:Blk),m id = some B → D id
 inj : ∀ (id id':AId) (b t t':Nat),m id = some (.at b t) → m id' = some (.at b t') → id = id'
 lt : ∀ (id:AId) (b t:Nat),m id = some (.at b t) → b < w.heap.size
 okm : ∀ (id:AId) (b t:Nat),m id = some (.at b t) → ok b
 fresh : ∀ b,w.heap.size ≤ b → ok b
 glob : ∀ x ∈ Gs,(∀ (id:AId) (t:Nat),m id ≠ some (.at x.1 t)) ∧ ∃ o,w.heap[x.1]? = some o ∧ x.2 o
theorem ask_drawn {α:Type} : ∀ (a:Ask α) (w:World),w.drawn ≤ (w.ask a).2.drawn
 | .done a,w=>Nat.le_refl _
 | .ask what range k,w=>by
  unfold World.ask
  simp only
  split
  ·exact ask_drawn (k 0) w
  ·exact Nat.le_trans (Nat.le_succ w.drawn) (ask_drawn (k _) { w with drawn:=w.drawn + 1 })
theorem viewStore_drawn {p:Program} {w:World} {at_:Addr} {u:TypeId} {k:Addr} {v:Value} {atomic:Bool} {r:World × List Addr} (h:w.viewStore p at_ u k v atomic = .ok r):r.1.drawn = w.drawn:=by
 unfold World.viewStore at h
 simp only [bind,Except.bind,pure,Except.pure] at h
 repeat' split at h
 all_goals first
  | (cases h; done)
  | (injection h with h; subst h; rfl)
theorem run_drawn {P:Program} {α:Type} : ∀ {s:Sem α} {w w':World} {a:α},s.run P w = .ok a w' → w.drawn ≤ w'.drawn:=by
 intro s
 induction s with
 | pure a=>intro w w' b h; simp only [Sem.run] at h; injection h with _ h; subst h; exact Nat.le_refl _
 | load m a k ih =>
  intro w w' b h
  simp only [Sem.run] at h
  split at h
  ·exact ih _ h
  ·split at h
   ·exact ih _ h
   ·cases h
 | store m a v k ih =>
  intro w w' b h
  cases v <;> simp only [Sem.run] at h <;> try (cases h; done)
  all_goals
   split at h
   ·split at h
    ·cases h
    ·have:=ih h
     simpa using this
   ·split at h
    ·rename_i w1 t hf
     have:w1.drawn = w.drawn:=by
      unfold World.farStore at hf
      split at hf
      ·split at hf
       ·rename_i r hr
        injection hf with hf
        subst hf
        exact viewStore_drawn hr
       ·cases hf
      ·cases hf
     rw [← this]
     exact ih h
    ·cases h
 | new o k ih=>intro w w' b h; simp only [Sem.run] at h; have:=ih _ h; exact this
 | shape r k ih=>intro w w' b h; simp only [Sem.run] at h; exact ih _ h
 | freeze a n k ih =>
  intro w w' b h
  simp only [Sem.run] at h
  have:=ih h
  have e:(w.freeze a n).drawn = w.drawn:=by unfold World.freeze; (repeat' split) <;> rfl
  rw [← e]
  exact this
 | frozen a k ih=>intro w w' b h; simp only [Sem.run] at h; exact ih _ h
 | getObj r k ih =>
  intro w w' b h
  simp only [Sem.run] at h
  split at h
  ·cases h
  ·exact ih _ h
  ·cases h
 | setObj r o k ih =>
  intro w w' b h
  simp only [Sem.run] at h
  split at h
  ·cases h
  ·have:=ih h; exact this
  ·cases h
 | choose q k ih =>
  intro w w' b h
  simp only [Sem.run] at h
  split at h
  ·exact ih _ h
  ·exact Nat.le_trans (Nat.le_succ w.drawn) (ih _ h)
 | sys c k ih =>
  intro w w' b h
  simp only [Sem.run] at h
  refine Nat.le_trans ?_ (ih _ h)
  unfold World.sys
  have:=ask_drawn (Kernel.perform c w.os) w
  split <;> rename_i he <;> rw [he] at this
  ·exact Nat.le_refl _
  ·exact this
 | program k ih=>intro w w' b h; simp only [Sem.run] at h; exact ih _ h
 | mark m k ih=>intro w w' b h; simp only [Sem.run] at h; exact ih h
 | halt h=>intro w w' b h; simp only [Sem.run] at h; cases h
variable [DqC]
structure Tp (w w':World):Prop where
 tape:w'.tape = w.tape
 drw:DqC.v = true → w.drawn ≤ w'.drawn
theorem Tp.same {w w':World} (h:w'.tape = w.tape) (hd:w'.drawn = w.drawn):Tp w w':=⟨h,fun _=>Nat.le_of_eq hd.symm⟩
theorem Tp.refl (w:World):Tp w w:=⟨rfl,fun _=>Nat.le_refl _⟩
theorem Tp.trans {w w1 w2:World} (h:Tp w w1) (k:Tp w1 w2):Tp w w2:=⟨k.tape.trans h.tape,fun e=>Nat.le_trans (h.drw e) (k.drw e)⟩
structure Step (m:AId → Option Blk) (w:World) (m':AId → Option Blk) (w':World):Prop where
 os:w'.os = w.os
 tape:Tp w w'
 output:w'.output = w.output
 size:w.heap.size ≤ w'.heap.size
 keep : ∀ b,b < w.heap.size → (∀ (id:AId) (t:Nat),m id ≠ some (.at b t)) → w'.heap[b]? = w.heap[b]?
 own : ∀ (id:AId) (b t:Nat),m' id = some (.at b t) → (∃ id0 t0,m id0 = some (.at b t0)) ∨ w.heap.size ≤ b
theorem Step.refl (m:AId → Option Blk) (w:World):Step m w m w:=⟨rfl,Tp.refl w,rfl,Nat.le_refl _,fun _ _ _=>rfl,fun id _ t h=>.inl ⟨id,t,h⟩⟩
theorem Step.trans {m m1 m2:AId → Option Blk} {w w1 w2:World} (h:Step m w m1 w1) (k:Step m1 w1 m2 w2):Step m w m2 w2:=by
 refine ⟨k.os.trans h.os,h.tape.trans k.tape,k.output.trans h.output,Nat.le_trans h.size k.size,fun b hb hn=>?_,fun id b t hm=>?_⟩
 ·refine (k.keep b (Nat.lt_of_lt_of_le hb h.size) fun id t hm=>?_).trans (h.keep b hb hn)
  rcases h.own id b t hm with ⟨i0,t0,h0⟩ | hge
  ·exact hn i0 t0 h0
  ·omega
 ·rcases k.own id b t hm with ⟨i0,t0,h0⟩ | hge
  ·exact h.own i0 b t0 h0
  ·exact .inr (Nat.le_trans h.size hge)
theorem Step.drawnN {m:AId → Option Blk} {w:World} (n:Nat):Step m w m (w.drewN n):=⟨rfl,⟨rfl,fun _=>Nat.le_add_right _ _⟩,rfl,Nat.le_refl _,fun _ _ _=>rfl,fun id _ t h=>.inl ⟨id,t,h⟩⟩
theorem cell_same {w w':World} {a:Addr} (h:w'.heap[a.block]? = w.heap[a.block]?):w'.cell? a = w.cell? a:=by simp [World.cell?,h]
theorem Rep.step {w w':World} {ok:Nat → Prop} {D D':AId → Prop} {m m':AId → Option Blk} {c:Bool} {p:PVal} {v:Value} (h:Rep w (okn ok m) D m c p v) (hs:Step m w m' w')
  (hD : ∀ id,D id → D' id) (hm : ∀ id,D id → m' id = m id ∨ m' id = none):Rep w' (okn ok m') D' m' c p v:=by
 refine h.mono (fun a u ho hc=>?_) (fun b ho hb=>⟨ho.1,fun id t e=>?_⟩) id (fun _ _=>hD) (fun _ _=>hm)
 ·rw [cell_same (hs.keep _ (cell_lt hc) fun id t=>ho.2 id t)]; exact hc
 ·rcases hs.own id b t e with ⟨i0,t0,h0⟩ | hge
  ·exact ho.2 i0 t0 h0
  ·omega
theorem RepObj.step {w w':World} {ok:Nat → Prop} {D D':AId → Prop} {m m':AId → Option Blk} {o:AObj} {B:Blk} (h:RepObj w ok D m o B) (hs:Step m w m' w')
  (hB : ∀ b t,B = .at b t → w'.heap[b]? = w.heap[b]?)
  (hD : ∀ id,D id → D' id) (hm : ∀ id,D id → m' id = m id ∨ m' id = none):RepObj w' ok D' m' o B:=by
 cases o with
 | box cs =>
  cases B with
  | nil=>exact h
  | «at» b t =>
   obtain ⟨vs,ty,h1,h2,h3⟩:=h
   refine ⟨vs,ty,(hB b t rfl).trans h1,h2,fun i p hp=>?_⟩
   obtain ⟨v,h4,h5,h6⟩:=h3 i p hp
   exact ⟨v,h4,h5,h6.step hs hD hm⟩
 | row sz ty es =>
  cases B with
  | nil=>exact h
  | «at» b t =>
   obtain ⟨vs,h1,h2,h3,h3',h4,h5,h6⟩:=h
   refine ⟨vs,(hB b t rfl).trans h1,h2,h3,h3',h4,h5,fun i j e p he hp=>?_⟩
   obtain ⟨v,h7,h8,h9⟩:=h6 i j e p he hp
   exact ⟨v,h7,h8,h9.step hs hD hm⟩
 | full sz ty es =>
  cases B with
  | nil=>exact h
  | «at» b t =>
   obtain ⟨vs,h1,h2,h3,h3',h4,h5,h6⟩:=h
   refine ⟨vs,(hB b t rfl).trans h1,h2,h3,h3',h4,h5,fun i j e p he hp=>?_⟩
   rcases h6 i j e p he hp with h7 | ⟨v,h7,h8,h9⟩
   ·exact .inl h7
   ·exact .inr ⟨v,h7,h8,h9.step hs hD hm⟩
 | mp kvs =>
  cases B with
  | nil=>exact h
  | «at» b t =>
   obtain ⟨ents,clock,h1,h2,h3⟩:=h
   refine ⟨ents,clock,(hB b t rfl).trans h1,h2,fun i k x hkx=>?_⟩
   obtain ⟨e,h4,h5,h6⟩:=h3 i k x hkx
   exact ⟨e,h4,h5.step hs hD hm,h6.step hs hD hm⟩
 | mq clk es =>
  cases B with
  | nil=>exact h
  | «at» b t =>
   obtain ⟨ents,h1,h2,h3⟩:=h
   refine ⟨ents,(hB b t rfl).trans h1,h2,fun i s k x hkx=>?_⟩
   obtain ⟨e,h4,h5,h6,h7⟩:=h3 i s k x hkx
   exact ⟨e,h4,h5,h6,h7.step hs hD hm⟩
theorem SimH.reloc {D:AId → Prop} {m:AId → Option Blk} {ok:Nat → Prop} {heap:AId → Option AObj} {w w':World} (h:SimH D m ok heap w) (id0:Option AId) (id1:AId) (B1:Blk) (o1:AObj)
  (hos:w'.os = w.os) (htape:Tp w w') (hout:w'.output = w.output) (hsz:w.heap.size ≤ w'.heap.size)
  (hkeep : ∀ b,b < w.heap.size → (∀ i t,id0 = some i → m i ≠ some (.at b t)) → w'.heap[b]? = w.heap[b]?)
  (hid:(id0 = some id1 ∧ m id1 = some B1) ∨ ¬ D id1)
  (hB : ∀ b t,B1 = .at b t → b < w'.heap.size ∧ (w.heap.size ≤ b ∨ ∃ i t',id0 = some i ∧ m i = some (.at b t')))
  (hobj:Step m w (fun i=>if i = id1 then some B1 else if id0 = some i then none else m i) w' →
   RepObj w' ok (fun i=>D i ∨ i = id1) (fun i=>if i = id1 then some B1 else if id0 = some i then none else m i) o1 B1) :
  SimH (fun i=>D i ∨ i = id1) (fun i=>if i = id1 then some B1 else if id0 = some i then none else m i) ok (fun i=>if i = id1 then some o1 else if id0 = some i then none else heap i) w' ∧
   Step m w (fun i=>if i = id1 then some B1 else if id0 = some i then none else m i) w' ∧
   (∀ id,D id → (fun i=>if i = id1 then some B1 else if id0 = some i then none else m i) id = m id ∨ (fun i=>if i = id1 then some B1 else if id0 = some i then none else m i) id = none):=by
 have hm' : ∀ id,D id → (fun i=>if i = id1 then some B1 else if id0 = some i then none else m i) id = m id ∨ (fun i=>if i = id1 then some B1 else if id0 = some i then none else m i) id = none:=by
  intro id hd
  by_cases h1:id = id1
  ·subst h1
   rcases hid with ⟨_,he⟩ | hn
   ·left; simp [he]
   ·exact absurd hd hn
  ·by_cases h2:id0 = some id
   ·right; simp [h1,h2]
   ·left; simp [h1,h2]
 have hst:Step m w (fun i=>if i = id1 then some B1 else if id0 = some i then none else m i) w':=by
  refine ⟨hos,htape,hout,hsz,fun b hb hn=>hkeep b hb fun i t _=>hn i t,fun id b t he=>?_⟩
  by_cases h1:id = id1
  ·simp only [h1,if_true] at he
   injection he with he
   rcases (hB b t he).2 with hge | ⟨i,t',_,hi⟩
   ·exact .inr hge
   ·exact .inl ⟨i,t',hi⟩
  ·simp only [h1,if_false] at he
   by_cases h2:id0 = some id
   ·simp [h2] at he
   ·simp only [h2,if_false] at he
    exact .inl ⟨id,t,he⟩
 refine ⟨⟨fun id o he=>?_,fun id B he=>?_,fun id id' b t t' he he'=>?_,fun id b t he=>?_,fun id b t he=>?_,fun b hb=>h.fresh b (Nat.le_trans hsz hb),fun x hx=>?_⟩,hst,hm'⟩
 ·by_cases h1:id = id1
  ·simp only [h1,if_true,Option.some.injEq] at he
   subst he
   exact ⟨B1,by simp [h1],hobj hst⟩
  ·simp only [h1,if_false] at he
   by_cases h2:id0 = some id
   ·simp [h2] at he
   ·simp only [h2,if_false] at he
    obtain ⟨B,hB',ho⟩:=h.obj id o he
    refine ⟨B,by simp [h1,h2,hB'],ho.step hst (fun b t e=>?_) (fun _=>.inl) hm'⟩
    subst e
    exact hkeep b (h.lt id b t hB') fun i t' hi hi'=>h2 (by rw [hi,h.inj i id b t' t hi' hB'])
 ·by_cases h1:id = id1
  ·exact .inr h1
  ·simp only [h1,if_false] at he
   by_cases h2:id0 = some id
   ·simp [h2] at he
   ·simp only [h2,if_false] at he
    exact .inl (h.dom id B he)
 ·have key : ∀ i b t,(fun i=>if i = id1 then some B1 else if id0 = some i then none else m i) i = some (Blk.at b t) → (i = id1 ∧ B1 = .at b t) ∨ (i ≠ id1 ∧ id0 ≠ some i ∧ m i = some (.at b t)):=by
   intro i b t hi
   by_cases h1:i = id1
   ·simp only [h1,if_true] at hi; injection hi with hi; exact .inl ⟨h1,hi⟩
   ·simp only [h1,if_false] at hi
    by_cases h2:id0 = some i
    ·simp [h2] at hi
    ·simp only [h2,if_false] at hi; exact .inr ⟨h1,h2,hi⟩
  have clash : ∀ i b t t',B1 = .at b t → i ≠ id1 → id0 ≠ some i → m i = some (.at b t') → False:=by
   intro i b t t' hb h1 h2 hi
   rcases (hB b t hb).2 with hge | ⟨i0,t0,h0,hi0⟩
   ·have:=h.lt i b t' hi; omega
   ·exact h2 (by rw [h0,h.inj i0 i b t0 t' hi0 hi])
  rcases key id b t he with ⟨h1,hb⟩ | ⟨h1,h2,hi⟩ <;> rcases key id' b t' he' with ⟨h1',hb'⟩ | ⟨h1',h2',hi'⟩
  ·rw [h1,h1']
  ·exact (clash id' b t t' hb h1' h2' hi').elim
  ·exact (clash id b t' t hb' h1 h2 hi).elim
  ·exact h.inj id id' b t t' hi hi'
 ·by_cases h1:id = id1
  ·simp only [h1,if_true] at he; injection he with he; exact (hB b t he).1
  ·simp only [h1,if_false] at he
   by_cases h2:id0 = some id
   ·simp [h2] at he
   ·simp only [h2,if_false] at he; exact Nat.lt_of_lt_of_le (h.lt id b t he) hsz
 ·by_cases h1:id = id1
  ·simp only [h1,if_true] at he
   injection he with he
   rcases (hB b t he).2 with hge | ⟨i,t',_,hi⟩
   ·exact h.fresh b hge
   ·exact h.okm i b t' hi
  ·simp only [h1,if_false] at he
   by_cases h2:id0 = some id
   ·simp [h2] at he
   ·simp only [h2,if_false] at he; exact h.okm id b t he
 ·obtain ⟨hn,o,ho,hp⟩:=h.glob x hx
  have hlt:x.1 < w.heap.size:=(Array.getElem?_eq_some_iff.1 ho).1
  refine ⟨fun id t he=>?_,o,?_,hp⟩
  ·by_cases h1:id = id1
   ·simp only [h1,if_true] at he
    injection he with he
    rcases (hB x.1 t he).2 with hge | ⟨i,t',_,hi⟩
    ·omega
    ·exact hn i t' hi
   ·simp only [h1,if_false] at he
    by_cases h2:id0 = some id
    ·simp [h2] at he
    ·simp only [h2,if_false] at he; exact hn id t he
  ·rw [hkeep x.1 hlt fun i t _ hi=>hn i t hi]
   exact ho
end Go.Proofs.YtakallenldpkiaaGreatDoor.Abs
