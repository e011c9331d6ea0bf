/- Arguments, typed (printed by this work's own program rows.py). -/
import Derived.Test.YtmfggjebbhdejaaGreatA23
import Derived.Test.YtmfggjebbhdejaaGreatEn
import Derived.KernelRfl
set_option linter.unusedVariables false
set_option maxRecDepth 10000
namespace Go.Proofs.YtmfggjebbhdejaaGreat.Abs
open Go
def zy.ok (x:zy):Prop:=InK .u32 x.A ∧ InK .i64 x.N
def THop.ok (x:THop):Prop:=InK .i64 x.Iface ∧ InK .u32 x.Gate
def qj.ok (x:qj):Prop:=zy.ok x.P ∧ InK .i64 x.Proto ∧ InK .i64 x.Inst ∧ InK .i64 x.Dist ∧ InK .i64 x.Metric ∧ InK .u32 x.Tag ∧ InK .i64 x.From ∧ (∀ y ∈ x.Hops,THop.ok y)
def zv.ok (x:zv):Prop:=InK .i64 x.Seq ∧ zy.ok x.P ∧ InK .i64 x.Ge ∧ InK .i64 x.Le
def zx.ok (x:zx):Prop:=InK .i64 x.Seq ∧ (∀ y ∈ x.Listf,zv.ok y) ∧ InK .i64 x.MKind ∧ InK .i64 x.MLow ∧ InK .i64 x.MHigh ∧ (∀ y ∈ x.MTags,InK .u32 y) ∧ InK .i64 x.SCost ∧ InK .i64 x.SPlus ∧ InK .i64 x.SKind ∧ InK .u32 x.STag
def TAct.ok (x:TAct):Prop:=InK .i64 x.Kind ∧ InK .i64 x.At ∧ InK .i64 x.To ∧ qj.ok x.C ∧ (∀ y ∈ x.Map,zx.ok y)
theorem of39 {n:Nat} {cs:List PVal} (h:Typed Tryz.prog (n + 2) 39 cs) : ∃ x:zy,cs = zy.c x ∧ x.ok:=by
 obtain ⟨a0,b0,rfl,h0,a1,b1,rfl,h1,rfl⟩:=typed_struct (n:=n + 1) Tryz.underlying39 h
 obtain ⟨i0,rfl,w0⟩:=typed_int Tryz.underlying37 h0
 obtain ⟨i1,rfl,w1⟩:=typed_int Tryz.underlying3 h1
 exact ⟨⟨i0,i1⟩,rfl,w0,w1⟩
theorem of81 {n:Nat} {cs:List PVal} (h:Typed Tryz.prog (n + 2) 81 cs) : ∃ x:THop,cs = THop.c x ∧ x.ok:=by
 obtain ⟨a0,b0,rfl,h0,a1,b1,rfl,h1,rfl⟩:=typed_struct (n:=n + 1) Tryz.underlying81 h
 obtain ⟨i0,rfl,w0⟩:=typed_int Tryz.underlying3 h0
 obtain ⟨i1,rfl,w1⟩:=typed_int Tryz.underlying37 h1
 exact ⟨⟨i0,i1⟩,rfl,w0,w1⟩
theorem of40 {n:Nat} {cs:List PVal} (h:Typed Tryz.prog (n + 3) 40 cs) : ∃ x:List THop,cs = [.ro 2 (x.map THop.c)] ∧ ∀ y ∈ x,THop.ok y:=by
 obtain ⟨es,rfl,h2⟩:=typed_slice (n:=n + 2) (sz:=2) Tryz.underlying40 (by kernel_rfl) h
 obtain ⟨l,rfl,hl⟩:=list_of (c:=THop.c) (ok:=(fun y=>THop.ok y)) (es:=es) (fun x hx=>of81 (h2 x hx))
 exact ⟨l,rfl,hl⟩
theorem of42 {n:Nat} {cs:List PVal} (h:Typed Tryz.prog (n + 4) 42 cs) : ∃ x:qj,cs = qj.c x ∧ x.ok:=by
 obtain ⟨a0,b0,rfl,h0,a1,b1,rfl,h1,a2,b2,rfl,h2,a3,b3,rfl,h3,a4,b4,rfl,h4,a5,b5,rfl,h5,a6,b6,rfl,h6,a7,b7,rfl,h7,a8,b8,rfl,h8,rfl⟩:=typed_struct (n:=n + 3) Tryz.underlying42 h
 obtain ⟨i0,rfl,w0⟩:=of39 h0
 obtain ⟨i1,rfl,w1⟩:=typed_int Tryz.underlying3 h1
 obtain ⟨i2,rfl,w2⟩:=typed_int Tryz.underlying3 h2
 obtain ⟨i3,rfl,w3⟩:=typed_int Tryz.underlying3 h3
 obtain ⟨i4,rfl,w4⟩:=typed_int Tryz.underlying3 h4
 obtain ⟨i5,rfl,w5⟩:=typed_int Tryz.underlying37 h5
 obtain ⟨i6,rfl⟩:=typed_bool Tryz.underlying4 h6
 obtain ⟨i7,rfl,w7⟩:=typed_int Tryz.underlying3 h7
 obtain ⟨i8,rfl,w8⟩:=of40 h8
 exact ⟨⟨i0,i1,i2,i3,i4,i5,i6,i7,i8⟩,rfl,w0,w1,w2,w3,w4,w5,w7,w8⟩
theorem of158 {n:Nat} {cs:List PVal} (h:Typed Tryz.prog (n + 3) 158 cs) : ∃ x:zv,cs = zv.c x ∧ x.ok:=by
 obtain ⟨a0,b0,rfl,h0,a1,b1,rfl,h1,a2,b2,rfl,h2,a3,b3,rfl,h3,a4,b4,rfl,h4,rfl⟩:=typed_struct (n:=n + 2) Tryz.underlying158 h
 obtain ⟨i0,rfl,w0⟩:=typed_int Tryz.underlying3 h0
 obtain ⟨i1,rfl⟩:=typed_bool Tryz.underlying4 h1
 obtain ⟨i2,rfl,w2⟩:=of39 h2
 obtain ⟨i3,rfl,w3⟩:=typed_int Tryz.underlying3 h3
 obtain ⟨i4,rfl,w4⟩:=typed_int Tryz.underlying3 h4
 exact ⟨⟨i0,i1,i2,i3,i4⟩,rfl,w0,w2,w3,w4⟩
theorem of90 {n:Nat} {cs:List PVal} (h:Typed Tryz.prog (n + 4) 90 cs) : ∃ x:List zv,cs = [.ro 6 (x.map zv.c)] ∧ ∀ y ∈ x,zv.ok y:=by
 obtain ⟨es,rfl,h2⟩:=typed_slice (n:=n + 3) (sz:=6) Tryz.underlying90 (by kernel_rfl) h
 obtain ⟨l,rfl,hl⟩:=list_of (c:=zv.c) (ok:=(fun y=>zv.ok y)) (es:=es) (fun x hx=>of158 (h2 x hx))
 exact ⟨l,rfl,hl⟩
theorem of91 {n:Nat} {cs:List PVal} (h:Typed Tryz.prog (n + 2) 91 cs) : ∃ x:List Int,cs = [.ro 1 (x.map c_u32)] ∧ ∀ y ∈ x,InK .u32 y:=by
 obtain ⟨es,rfl,h2⟩:=typed_slice (n:=n + 1) (sz:=1) Tryz.underlying91 (by kernel_rfl) h
 obtain ⟨l,rfl,hl⟩:=list_of (c:=c_u32) (ok:=(fun y=>InK .u32 y)) (es:=es) (fun x hx=>by obtain ⟨i,rfl,w⟩:=typed_int Tryz.underlying37 (h2 x hx); exact ⟨i,rfl,w⟩)
 exact ⟨l,rfl,hl⟩
theorem of93 {n:Nat} {cs:List PVal} (h:Typed Tryz.prog (n + 5) 93 cs) : ∃ x:zx,cs = zx.c x ∧ x.ok:=by
 obtain ⟨a0,b0,rfl,h0,a1,b1,rfl,h1,a2,b2,rfl,h2,a3,b3,rfl,h3,a4,b4,rfl,h4,a5,b5,rfl,h5,a6,b6,rfl,h6,a7,b7,rfl,h7,a8,b8,rfl,h8,a9,b9,rfl,h9,a10,b10,rfl,h10,a11,b11,rfl,h11,rfl⟩:=typed_struct (n:=n + 4) Tryz.underlying93 h
 obtain ⟨i0,rfl,w0⟩:=typed_int Tryz.underlying3 h0
 obtain ⟨i1,rfl⟩:=typed_bool Tryz.underlying4 h1
 obtain ⟨i2,rfl,w2⟩:=of90 h2
 obtain ⟨i3,rfl,w3⟩:=typed_int Tryz.underlying3 h3
 obtain ⟨i4,rfl,w4⟩:=typed_int Tryz.underlying3 h4
 obtain ⟨i5,rfl,w5⟩:=typed_int Tryz.underlying3 h5
 obtain ⟨i6,rfl,w6⟩:=of91 h6
 obtain ⟨i7,rfl,w7⟩:=typed_int Tryz.underlying3 h7
 obtain ⟨i8,rfl,w8⟩:=typed_int Tryz.underlying3 h8
 obtain ⟨i9,rfl,w9⟩:=typed_int Tryz.underlying3 h9
 obtain ⟨i10,rfl⟩:=typed_bool Tryz.underlying4 h10
 obtain ⟨i11,rfl,w11⟩:=typed_int Tryz.underlying37 h11
 exact ⟨⟨i0,i1,i2,i3,i4,i5,i6,i7,i8,i9,i10,i11⟩,rfl,w0,w2,w3,w4,w5,w6,w7,w8,w9,w11⟩
theorem of58 {n:Nat} {cs:List PVal} (h:Typed Tryz.prog (n + 6) 58 cs) : ∃ x:List zx,cs = [.ro 12 (x.map zx.c)] ∧ ∀ y ∈ x,zx.ok y:=by
 obtain ⟨es,rfl,h2⟩:=typed_slice (n:=n + 5) (sz:=12) Tryz.underlying58 (by kernel_rfl) h
 obtain ⟨l,rfl,hl⟩:=list_of (c:=zx.c) (ok:=(fun y=>zx.ok y)) (es:=es) (fun x hx=>of93 (h2 x hx))
 exact ⟨l,rfl,hl⟩
theorem of60 {n:Nat} {cs:List PVal} (h:Typed Tryz.prog (n + 7) 60 cs) : ∃ x:TAct,cs = TAct.c x ∧ x.ok:=by
 obtain ⟨a0,b0,rfl,h0,a1,b1,rfl,h1,a2,b2,rfl,h2,a3,b3,rfl,h3,a4,b4,rfl,h4,rfl⟩:=typed_struct (n:=n + 6) Tryz.underlying60 h
 obtain ⟨i0,rfl,w0⟩:=typed_int Tryz.underlying3 h0
 obtain ⟨i1,rfl,w1⟩:=typed_int Tryz.underlying3 h1
 obtain ⟨i2,rfl,w2⟩:=typed_int Tryz.underlying3 h2
 obtain ⟨i3,rfl,w3⟩:=of42 h3
 obtain ⟨i4,rfl,w4⟩:=of58 h4
 exact ⟨⟨i0,i1,i2,i3,i4⟩,rfl,w0,w1,w2,w3,w4⟩
theorem of22 {n:Nat} {cs:List PVal} (h:Typed Tryz.prog (n + 8) 22 cs) : ∃ x:List TAct,cs = [.ro 14 (x.map TAct.c)] ∧ ∀ y ∈ x,TAct.ok y:=by
 obtain ⟨es,rfl,h2⟩:=typed_slice (n:=n + 7) (sz:=14) Tryz.underlying22 (by kernel_rfl) h
 obtain ⟨l,rfl,hl⟩:=list_of (c:=TAct.c) (ok:=(fun y=>TAct.ok y)) (es:=es) (fun x hx=>of60 (h2 x hx))
 exact ⟨l,rfl,hl⟩
end Go.Proofs.YtmfggjebbhdejaaGreat.Abs
