/- Arguments, typed (printed by this work's own program rows.py). -/
import Derived.Test.YtakallenldpkiaaGreatDoorA23
import Derived.Test.YtakallenldpkiaaGreatDoorEn
import Derived.KernelRfl
set_option linter.unusedVariables false
set_option maxRecDepth 10000
namespace Go.Proofs.YtakallenldpkiaaGreatDoor.Abs
open Go
def qk.ok (x:qk):Prop:=InK .u32 x.A ∧ InK .i64 x.N
def THop.ok (x:THop):Prop:=InK .i64 x.Iface ∧ InK .u32 x.Gate
def qj.ok (x:qj):Prop:=qk.ok x.P ∧ InK .i64 x.Proto ∧ InK .i64 x.Inst ∧ InK .i64 x.Dist ∧ InK .i64 x.Metric ∧ InK .u32 x.Tag ∧ InK .i64 x.From ∧ (∀ y ∈ x.Hops,THop.ok y)
def TAct.ok (x:TAct):Prop:=InK .i64 x.Kind ∧ qk.ok x.P ∧ (∀ y ∈ x.Hops,THop.ok y) ∧ (∀ y ∈ x.L,qj.ok y)
theorem of28 {n:Nat} {cs:List PVal} (h:Typed Tryz.prog (n + 2) 28 cs) : ∃ x:qk,cs = qk.c x ∧ x.ok:=by
 obtain ⟨a0,b0,rfl,h0,a1,b1,rfl,h1,rfl⟩:=typed_struct (n:=n + 1) Tryz.underlying28 h
 obtain ⟨i0,rfl,w0⟩:=typed_int Tryz.underlying23 h0
 obtain ⟨i1,rfl,w1⟩:=typed_int Tryz.underlying3 h1
 exact ⟨⟨i0,i1⟩,rfl,w0,w1⟩
theorem of63 {n:Nat} {cs:List PVal} (h:Typed Tryz.prog (n + 2) 63 cs) : ∃ x:THop,cs = THop.c x ∧ x.ok:=by
 obtain ⟨a0,b0,rfl,h0,a1,b1,rfl,h1,rfl⟩:=typed_struct (n:=n + 1) Tryz.underlying63 h
 obtain ⟨i0,rfl,w0⟩:=typed_int Tryz.underlying3 h0
 obtain ⟨i1,rfl,w1⟩:=typed_int Tryz.underlying23 h1
 exact ⟨⟨i0,i1⟩,rfl,w0,w1⟩
theorem of29 {n:Nat} {cs:List PVal} (h:Typed Tryz.prog (n + 3) 29 cs) : ∃ x:List THop,cs = [.ro 2 (x.map THop.c)] ∧ ∀ y ∈ x,THop.ok y:=by
 obtain ⟨es,rfl,h2⟩:=typed_slice (n:=n + 2) (sz:=2) Tryz.underlying29 (by kernel_rfl) h
 obtain ⟨l,rfl,hl⟩:=list_of (c:=THop.c) (ok:=(fun y=>THop.ok y)) (es:=es) (fun x hx=>of63 (h2 x hx))
 exact ⟨l,rfl,hl⟩
theorem of34 {n:Nat} {cs:List PVal} (h:Typed Tryz.prog (n + 4) 34 cs) : ∃ x:qj,cs = qj.c x ∧ x.ok:=by
 obtain ⟨a0,b0,rfl,h0,a1,b1,rfl,h1,a2,b2,rfl,h2,a3,b3,rfl,h3,a4,b4,rfl,h4,a5,b5,rfl,h5,a6,b6,rfl,h6,a7,b7,rfl,h7,a8,b8,rfl,h8,rfl⟩:=typed_struct (n:=n + 3) Tryz.underlying34 h
 obtain ⟨i0,rfl,w0⟩:=of28 h0
 obtain ⟨i1,rfl,w1⟩:=typed_int Tryz.underlying3 h1
 obtain ⟨i2,rfl,w2⟩:=typed_int Tryz.underlying3 h2
 obtain ⟨i3,rfl,w3⟩:=typed_int Tryz.underlying3 h3
 obtain ⟨i4,rfl,w4⟩:=typed_int Tryz.underlying3 h4
 obtain ⟨i5,rfl,w5⟩:=typed_int Tryz.underlying23 h5
 obtain ⟨i6,rfl⟩:=typed_bool Tryz.underlying4 h6
 obtain ⟨i7,rfl,w7⟩:=typed_int Tryz.underlying3 h7
 obtain ⟨i8,rfl,w8⟩:=of29 h8
 exact ⟨⟨i0,i1,i2,i3,i4,i5,i6,i7,i8⟩,rfl,w0,w1,w2,w3,w4,w5,w7,w8⟩
theorem of22 {n:Nat} {cs:List PVal} (h:Typed Tryz.prog (n + 5) 22 cs) : ∃ x:List qj,cs = [.ro 10 (x.map qj.c)] ∧ ∀ y ∈ x,qj.ok y:=by
 obtain ⟨es,rfl,h2⟩:=typed_slice (n:=n + 4) (sz:=10) Tryz.underlying22 (by kernel_rfl) h
 obtain ⟨l,rfl,hl⟩:=list_of (c:=qj.c) (ok:=(fun y=>qj.ok y)) (es:=es) (fun x hx=>of34 (h2 x hx))
 exact ⟨l,rfl,hl⟩
theorem of31 {n:Nat} {cs:List PVal} (h:Typed Tryz.prog (n + 6) 31 cs) : ∃ x:TAct,cs = TAct.c x ∧ x.ok:=by
 obtain ⟨a0,b0,rfl,h0,a1,b1,rfl,h1,a2,b2,rfl,h2,a3,b3,rfl,h3,rfl⟩:=typed_struct (n:=n + 5) Tryz.underlying31 h
 obtain ⟨i0,rfl,w0⟩:=typed_int Tryz.underlying3 h0
 obtain ⟨i1,rfl,w1⟩:=of28 h1
 obtain ⟨i2,rfl,w2⟩:=of29 h2
 obtain ⟨i3,rfl,w3⟩:=of22 h3
 exact ⟨⟨i0,i1,i2,i3⟩,rfl,w0,w1,w2,w3⟩
theorem of48 {n:Nat} {cs:List PVal} (h:Typed Tryz.prog (n + 7) 48 cs) : ∃ x:List TAct,cs = [.ro 5 (x.map TAct.c)] ∧ ∀ y ∈ x,TAct.ok y:=by
 obtain ⟨es,rfl,h2⟩:=typed_slice (n:=n + 6) (sz:=5) Tryz.underlying48 (by kernel_rfl) h
 obtain ⟨l,rfl,hl⟩:=list_of (c:=TAct.c) (ok:=(fun y=>TAct.ok y)) (es:=es) (fun x hx=>of31 (h2 x hx))
 exact ⟨l,rfl,hl⟩
end Go.Proofs.YtakallenldpkiaaGreatDoor.Abs
